/- Part of the proof of a law: contracts of the functions that the law reaches, or plain laws of them, out of the abstract layer (the texts YtnhfojbokhgbhaaDoorIso..). No condition. -/
import Derived.Test.YtnhfojbokhgbhaaDoorW
import Derived.Test.YtnhfojbokhgbhaaDoorIsoF
import Derived.Test.YtnhfojbokhgbhaaDoorLman
open Nat (reduceEqDiff reduceAdd reduceSub reduceMul reduceLeDiff reduceLT)
namespace Go.Proofs.YtnhfojbokhgbhaaDoor
open Go Go.Iso Go.Proofs
set_option linter.unusedSimpArgs false
set_option linter.unusedVariables false
set_option maxRecDepth 100000
structure Api_MonoA where
 exps : List Int
 coef : RatA
def Api_MonoA.enc (x : Api_MonoA) : List D := [slD i64V x.exps, .val (.bool x.coef.neg), slD u32V x.coef.num, slD u32V x.coef.den]
theorem Api_MonoA.enc_eta (x : Api_MonoA) : x.enc = [slD i64V x.exps, .val (.bool x.coef.neg), slD u32V x.coef.num, slD u32V x.coef.den] := rfl
attribute [go_sem] Api_MonoA.enc_eta
structure Api_PolyA where
 n : Int
 terms : List Api_MonoA
def Api_PolyA.enc (x : Api_PolyA) : List D := [.val (.int .i64 x.n), slD Api_MonoA.enc x.terms]
theorem Api_PolyA.enc_eta (x : Api_PolyA) : x.enc = [.val (.int .i64 x.n), slD Api_MonoA.enc x.terms] := rfl
attribute [go_sem] Api_PolyA.enc_eta
/-! ### isochrone/isochronelaw22.terms -/
def law22_terms (K : Nat) (p0 : Api_PolyA) : Option Int := ((iter (S := Int × Int) (R := Int) K (fun again (i1_0, i1_1) =>
  if (decide (i1_1 < (p0.terms.length : Int))) then
   (idx p0.terms i1_1).bind fun x6 =>
   ((iter (S := Int × Int) (R := Int) K (fun again (i8_0, i8_1) =>
    if (decide (i8_1 < (x6.exps.length : Int))) then
     (idx x6.exps i8_1).bind fun x13 =>
     again (IntKind.wrap .i64 (i8_0 + (IntKind.wrap .i64 ((4 : Int) * (if (if x13 > (0 : Int) then x13 else (0 : Int)) < (100 : Int) then (if x13 > (0 : Int) then x13 else (0 : Int)) else (100 : Int))))), IntKind.wrap .i64 (i8_1 + (1 : Int)))
    else
     some i8_0) (IntKind.wrap .i64 (i1_0 + (IntKind.wrap .i64 ((40 : Int) + (IntKind.wrap .i64 ((10 : Int) * (IntKind.wrap .i64 ((x6.coef.num.length : Int) + (x6.coef.den.length : Int)))))))), (0 : Int))) : Option Int).bind (fun e9_0 =>
   again (e9_0, IntKind.wrap .i64 (i1_1 + (1 : Int))))
  else
   some i1_0) ((0 : Int), (0 : Int))) : Option Int).bind (fun e2_0 =>
 some e2_0)
set_option maxHeartbeats 4000000 in
theorem law22_terms_ok {K : Nat} {p0 : Api_PolyA} {r : Int} (h : law22_terms K p0 = some r) : Cn Tryd.prog 39 [aggV p0.enc] (.d (.val (.int .i64 r))) := by
 refine Cn.oz Tryd.func39 Tryd.call39 Tryd.ntmps39 Tryd.results39 fun hfit => ?_
 unfold law22_terms at h
 refine AW.kr [] [0] ?_
 refine AW.kr [0] [1] ?_
 refine AW.ks [0] [1, 3] ?_
 refine AW.one ?_
 refine AW.ro ?_
 refine AW.ks [0] [1, 3, 4] ?_
 refine AW.lm h (fun e2_0 => [(3, vI e2_0)]) (fun e2_0 => []) (fun (i1_0, i1_1) => [(1, .ptr 0 2 0 0), (3, vI i1_0), (4, vI i1_1)]) (fun (i1_0, i1_1) => [vE p0.enc]) [0] (fun oJ4 again ⟨i1_0, i1_1⟩ h => ?_) fun e2_0 h => ?_
 ·try dsimp only at h
  refine AW.one ?_
  refine AW.ro ?_
  refine AW.ks [0] [1, 3, 4, 10] ?_
  refine AW.tt h (fun hb5 h => ?_) fun hb5 h => ?_
  ·refine AW.sk ?_
   refine AW.ks [0] [1, 3, 4] ?_
   refine AW.one ?_
   refine AW.block ?_
   refine AW.ro ?_
   refine bx h fun x6 h0 h1 h => ?_
   refine AW.kr [0] [1, 3, 4] ?_
   refine AW.ks [0] [1, 3, 4, 5] ?_
   refine AW.lm h (fun e9_0 => [(1, .ptr 0 2 0 0), (3, vI e9_0), (4, vI i1_1)]) (fun e9_0 => [vE p0.enc]) (fun (i8_0, i8_1) => [(1, .ptr 0 2 0 0), (3, vI i8_0), (4, vI i1_1), (5, vI i8_1)]) (fun (i8_0, i8_1) => [vE p0.enc]) [0] (fun oJ11 again ⟨i8_0, i8_1⟩ h => ?_) fun e9_0 h => ?_
   ·try dsimp only at h
    refine AW.one ?_
    refine AW.ro ?_
    refine AW.ks [0] [1, 3, 4, 5, 42] ?_
    refine AW.tt h (fun hb12 h => ?_) fun hb12 h => ?_
    ·refine AW.sk ?_
     refine AW.ks [0] [1, 3, 4, 5] ?_
     refine AW.one ?_
     refine AW.block ?_
     refine AW.rp ?_
     refine bx h fun x13 h0 h1 h => ?_
     refine AW.ks [0] [1, 3, 4, 5] ?_
     refine AW.rp ?_
     exact na [0] h
    refine AW.ex ?_
    exact ja [0] h
   refine AW.ks [0] [1, 3, 4] ?_
   refine AW.rp ?_
   exact na [0] h
  refine AW.ex ?_
  exact ja [] h
 refine AW.kr [] [3] ?_
 refine AW.ret ?_
 cases h; refine nz ?_; exact .same _
structure Api_SquareA where
 weight : RatA
 poly : Api_PolyA
def Api_SquareA.enc (x : Api_SquareA) : List D := [.val (.bool x.weight.neg), slD u32V x.weight.num, slD u32V x.weight.den, .val (.int .i64 x.poly.n), slD Api_MonoA.enc x.poly.terms]
theorem Api_SquareA.enc_eta (x : Api_SquareA) : x.enc = [.val (.bool x.weight.neg), slD u32V x.weight.num, slD u32V x.weight.den, .val (.int .i64 x.poly.n), slD Api_MonoA.enc x.poly.terms] := rfl
attribute [go_sem] Api_SquareA.enc_eta
inductive Api_CertA where
 | mk (kind : Int) (nums : List RatA) (polys : List Api_PolyA) (squares : List Api_SquareA) (kids : List Api_CertA)
def Api_CertA.kind : Api_CertA → Int | .mk x _ _ _ _ => x
def Api_CertA.nums : Api_CertA → List RatA | .mk _ x _ _ _ => x
def Api_CertA.polys : Api_CertA → List Api_PolyA | .mk _ _ x _ _ => x
def Api_CertA.squares : Api_CertA → List Api_SquareA | .mk _ _ _ x _ => x
def Api_CertA.kids : Api_CertA → List Api_CertA | .mk _ _ _ _ x => x
def Api_CertA.enc : Api_CertA → List D
 | .mk kind nums polys squares kids => [.val (.int .i64 kind), slD RatA.enc nums, slD Api_PolyA.enc polys, slD Api_SquareA.enc squares, .sl (kids.map Api_CertA.enc)]
theorem Api_CertA.enc_eta (x : Api_CertA) : x.enc = [.val (.int .i64 x.kind), slD RatA.enc x.nums, slD Api_PolyA.enc x.polys, slD Api_SquareA.enc x.squares, slD Api_CertA.enc x.kids] := by cases x; rw [Api_CertA.enc]; rfl
theorem Api_CertA.kind_mk {kind : Int} {nums : List RatA} {polys : List Api_PolyA} {squares : List Api_SquareA} {kids : List Api_CertA} : (Api_CertA.mk kind nums polys squares kids).kind = kind := nrfl rfl
theorem Api_CertA.nums_mk {kind : Int} {nums : List RatA} {polys : List Api_PolyA} {squares : List Api_SquareA} {kids : List Api_CertA} : (Api_CertA.mk kind nums polys squares kids).nums = nums := nrfl rfl
theorem Api_CertA.polys_mk {kind : Int} {nums : List RatA} {polys : List Api_PolyA} {squares : List Api_SquareA} {kids : List Api_CertA} : (Api_CertA.mk kind nums polys squares kids).polys = polys := nrfl rfl
theorem Api_CertA.squares_mk {kind : Int} {nums : List RatA} {polys : List Api_PolyA} {squares : List Api_SquareA} {kids : List Api_CertA} : (Api_CertA.mk kind nums polys squares kids).squares = squares := nrfl rfl
theorem Api_CertA.kids_mk {kind : Int} {nums : List RatA} {polys : List Api_PolyA} {squares : List Api_SquareA} {kids : List Api_CertA} : (Api_CertA.mk kind nums polys squares kids).kids = kids := nrfl rfl
theorem Api_CertA.kids_lt : ∀ {x k : Api_CertA}, k ∈ x.kids → SizeOf.sizeOf k < SizeOf.sizeOf x
 | .mk kind nums polys squares kids, k, h => by have := List.sizeOf_lt_of_mem (show k ∈ kids from h); simp only [Api_CertA.mk.sizeOf_spec]; omega
attribute [go_sem] Api_CertA.enc_eta Api_CertA.kind_mk Api_CertA.nums_mk Api_CertA.polys_mk Api_CertA.squares_mk Api_CertA.kids_mk
/-! ### isochrone/isochronelaw22.certs -/
def law22_certs_body (K : Nat) (self19 : Api_CertA → Option Int) (p0 : Api_CertA) : Option Int := ((iter (S := Int × Int) (R := Int) K (fun again (i1_0, i1_1) =>
  if (decide (i1_1 < (p0.nums.length : Int))) then
   (idx p0.nums i1_1).bind fun x6 =>
   again (IntKind.wrap .i64 (i1_0 + (IntKind.wrap .i64 ((1 : Int) + (IntKind.wrap .i64 ((4 : Int) * (IntKind.wrap .i64 ((x6.num.length : Int) + (x6.den.length : Int)))))))), IntKind.wrap .i64 (i1_1 + (1 : Int)))
  else
   some i1_0) ((0 : Int), (0 : Int))) : Option Int).bind (fun e2_0 =>
 ((iter (S := Int × Int) (R := Int) K (fun again (i8_0, i8_1) =>
  if (decide (i8_1 < (p0.polys.length : Int))) then
   (idx p0.polys i8_1).bind fun x13 =>
   (law22_terms K x13).bind fun r15 =>
   again (IntKind.wrap .i64 (i8_0 + (IntKind.wrap .i64 ((1 : Int) + r15))), IntKind.wrap .i64 (i8_1 + (1 : Int)))
  else
   some i8_0) (e2_0, (0 : Int))) : Option Int).bind (fun e9_0 =>
 ((iter (S := Int × Int) (R := Int) K (fun again (i17_0, i17_1) =>
  if (decide (i17_1 < (p0.squares.length : Int))) then
   (idx p0.squares i17_1).bind fun x22 =>
   (law22_terms K x22.poly).bind fun r24 =>
   again (IntKind.wrap .i64 (i17_0 + (IntKind.wrap .i64 ((IntKind.wrap .i64 ((1 : Int) + (IntKind.wrap .i64 ((4 : Int) * (IntKind.wrap .i64 ((x22.weight.num.length : Int) + (x22.weight.den.length : Int))))))) + r24))), IntKind.wrap .i64 (i17_1 + (1 : Int)))
  else
   some i17_0) (e9_0, (0 : Int))) : Option Int).bind (fun e18_0 =>
 ((iter (S := Int × Int) (R := Int) K (fun again (i26_0, i26_1) =>
  if (decide (i26_1 < (p0.kids.length : Int))) then
   (idx p0.kids i26_1).bind fun x31 =>
   (self19 (x31)).bind fun r33 =>
   again (IntKind.wrap .i64 (i26_0 + (IntKind.wrap .i64 ((1 : Int) + r33))), IntKind.wrap .i64 (i26_1 + (1 : Int)))
  else
   some i26_0) (e18_0, (0 : Int))) : Option Int).bind (fun e27_0 =>
 some e27_0))))
set_option maxHeartbeats 4000000 in
theorem law22_certs_step (K : Nat) (self19 : Api_CertA → Option Int) (hself19 : ∀ (q : Api_CertA) (r : Int), self19 q = some r → Cn Tryd.prog 19 [aggV q.enc] (.d (.val (.int .i64 r)))) (p0 : Api_CertA) (r : Int) (h : law22_certs_body K self19 p0 = some r) : Cn Tryd.prog 19 [aggV p0.enc] (.d (.val (.int .i64 r))) := by
 refine Cn.oz Tryd.func19 Tryd.call19 Tryd.ntmps19 Tryd.results19 fun hfit => ?_
 unfold law22_certs_body at h
 refine AW.kr [] [0] ?_
 refine AW.kr [0] [1] ?_
 refine AW.ks [0] [1, 3] ?_
 refine AW.one ?_
 refine AW.ro ?_
 refine AW.ks [0] [1, 3, 4] ?_
 refine AW.lm h (fun e2_0 => [(1, .ptr 0 5 0 0), (3, vI e2_0)]) (fun e2_0 => [vE p0.enc]) (fun (i1_0, i1_1) => [(1, .ptr 0 5 0 0), (3, vI i1_0), (4, vI i1_1)]) (fun (i1_0, i1_1) => [vE p0.enc]) [0] (fun oJ4 again ⟨i1_0, i1_1⟩ h => ?_) fun e2_0 h => ?_
 ·try dsimp only at h
  refine AW.one ?_
  refine AW.ro ?_
  refine AW.ks [0] [1, 3, 4, 12] ?_
  refine AW.tt h (fun hb5 h => ?_) fun hb5 h => ?_
  ·refine AW.sk ?_
   refine AW.ks [0] [1, 3, 4] ?_
   refine AW.one ?_
   refine AW.block ?_
   refine AW.rp ?_
   refine bx h fun x6 h0 h1 h => ?_
   refine AW.ks [0] [1, 3, 4] ?_
   refine AW.rp ?_
   exact na [0] h
  refine AW.ex ?_
  exact ja [0] h
 refine AW.ks [0] [1, 3] ?_
 refine AW.one ?_
 refine AW.ro ?_
 refine AW.ks [0] [1, 3, 5] ?_
 refine AW.lm h (fun e9_0 => [(1, .ptr 0 5 0 0), (3, vI e9_0)]) (fun e9_0 => [vE p0.enc]) (fun (i8_0, i8_1) => [(1, .ptr 0 5 0 0), (3, vI i8_0), (5, vI i8_1)]) (fun (i8_0, i8_1) => [vE p0.enc]) [0] (fun oJ11 again ⟨i8_0, i8_1⟩ h => ?_) fun e9_0 h => ?_
 ·try dsimp only at h
  refine AW.one ?_
  refine AW.ro ?_
  refine AW.ks [0] [1, 3, 5, 38] ?_
  refine AW.tt h (fun hb12 h => ?_) fun hb12 h => ?_
  ·refine AW.sk ?_
   refine AW.ks [0] [1, 3, 5] ?_
   refine AW.one ?_
   refine AW.block ?_
   refine AW.rp ?_
   refine bx h fun x13 h0 h1 h => ?_
   refine cm h law22_terms_ok fun r15 hx16 h => ?_
   refine AW.ks [0] [1, 3, 5] ?_
   refine AW.rp ?_
   exact na [0] h
  refine AW.ex ?_
  exact ja [0] h
 refine AW.ks [0] [1, 3] ?_
 refine AW.one ?_
 refine AW.ro ?_
 refine AW.ks [0] [1, 3, 6] ?_
 refine AW.lm h (fun e18_0 => [(1, .ptr 0 5 0 0), (3, vI e18_0)]) (fun e18_0 => [vE p0.enc]) (fun (i17_0, i17_1) => [(1, .ptr 0 5 0 0), (3, vI i17_0), (6, vI i17_1)]) (fun (i17_0, i17_1) => [vE p0.enc]) [0] (fun oJ20 again ⟨i17_0, i17_1⟩ h => ?_) fun e18_0 h => ?_
 ·try dsimp only at h
  refine AW.one ?_
  refine AW.ro ?_
  refine AW.ks [0] [1, 3, 6, 54] ?_
  refine AW.tt h (fun hb21 h => ?_) fun hb21 h => ?_
  ·refine AW.sk ?_
   refine AW.ks [0] [1, 3, 6] ?_
   refine AW.one ?_
   refine AW.block ?_
   refine AW.rp ?_
   refine bx h fun x22 h0 h1 h => ?_
   refine pm h law22_terms_ok fun r24 hx25 h => ?_
   refine AW.ks [0] [1, 3, 6] ?_
   refine AW.rp ?_
   exact na [0] h
  refine AW.ex ?_
  exact ja [0] h
 refine AW.ks [0] [1, 3] ?_
 refine AW.one ?_
 refine AW.ro ?_
 refine AW.ks [0] [1, 3, 7] ?_
 refine AW.lm h (fun e27_0 => [(3, vI e27_0)]) (fun e27_0 => []) (fun (i26_0, i26_1) => [(1, .ptr 0 5 0 0), (3, vI i26_0), (7, vI i26_1)]) (fun (i26_0, i26_1) => [vE p0.enc]) [0] (fun oJ29 again ⟨i26_0, i26_1⟩ h => ?_) fun e27_0 h => ?_
 ·try dsimp only at h
  refine AW.one ?_
  refine AW.ro ?_
  refine AW.ks [0] [1, 3, 7, 90] ?_
  refine AW.tt h (fun hb30 h => ?_) fun hb30 h => ?_
  ·refine AW.sk ?_
   refine AW.ks [0] [1, 3, 7] ?_
   refine AW.one ?_
   refine AW.block ?_
   refine AW.rp ?_
   refine bx h fun x31 h0 h1 h => ?_
   refine cm h (hself19 _ _) fun r33 hx34 h => ?_
   refine AW.ks [0] [1, 3, 7] ?_
   refine AW.rp ?_
   exact na [0] h
  refine AW.ex ?_
  exact ja [] h
 refine AW.kr [] [3] ?_
 refine AW.ret ?_
 cases h; refine nz ?_; exact .same _
def law22_certs (K : Nat) (p0 : Api_CertA) : Option Int := iter K (fun self q => law22_certs_body K self q) p0
theorem key_law22_certs {K : Nat} (k : Nat) : (∀ (q : Api_CertA) (r : Int), iter k (fun self q => law22_certs_body K self q) q = some r → Cn Tryd.prog 19 [aggV q.enc] (.d (.val (.int .i64 r)))) := by
 induction k with
 | zero => exact fun q r h => by cases h
 | succ k ih => exact fun q r h => law22_certs_step K _ ih q r h
theorem law22_certs_ok {K : Nat} {p0 : Api_CertA} {r : Int} (h : law22_certs K p0 = some r) : Cn Tryd.prog 19 [aggV p0.enc] (.d (.val (.int .i64 r))) := (key_law22_certs K) p0 r h
/-! ### isochrone/isochroneref08.Size -/
def r08_Size_body (K : Nat) (self20 : NodeA → Option Int) (p0 : NodeA) : Option Int := ((iter (S := Int × Int) (R := Int) K (fun again (i1_0, i1_1) =>
  if (decide (i1_1 < (p0.kids.length : Int))) then
   (idx p0.kids i1_1).bind fun x6 =>
   (self20 (x6)).bind fun r8 =>
   again (IntKind.wrap .i64 (i1_0 + r8), IntKind.wrap .i64 (i1_1 + (1 : Int)))
  else
   some i1_0) ((1 : Int), (0 : Int))) : Option Int).bind (fun e2_0 =>
 some e2_0)
set_option maxHeartbeats 4000000 in
theorem r08_Size_step (K : Nat) (self20 : NodeA → Option Int) (hself20 : ∀ (q : NodeA) (r : Int), self20 q = some r → Cn Tryd.prog 20 [aggV q.enc] (.d (.val (.int .i64 r)))) (p0 : NodeA) (r : Int) (h : r08_Size_body K self20 p0 = some r) : Cn Tryd.prog 20 [aggV p0.enc] (.d (.val (.int .i64 r))) := by
 refine Cn.oz Tryd.func20 Tryd.call20 Tryd.ntmps20 Tryd.results20 fun hfit => ?_
 unfold r08_Size_body at h
 refine AW.kr [] [0] ?_
 refine AW.kr [0] [1] ?_
 refine AW.ks [0] [1, 3] ?_
 refine AW.one ?_
 refine AW.ro ?_
 refine AW.ks [0] [1, 3, 4] ?_
 refine AW.lm h (fun e2_0 => [(3, vI e2_0)]) (fun e2_0 => []) (fun (i1_0, i1_1) => [(1, .ptr 0 6 0 0), (3, vI i1_0), (4, vI i1_1)]) (fun (i1_0, i1_1) => [vE p0.enc]) [0] (fun oJ4 again ⟨i1_0, i1_1⟩ h => ?_) fun e2_0 h => ?_
 ·try dsimp only at h
  refine AW.one ?_
  refine AW.ro ?_
  refine AW.ks [0] [1, 3, 4, 9] ?_
  refine AW.tt h (fun hb5 h => ?_) fun hb5 h => ?_
  ·refine AW.sk ?_
   refine AW.ks [0] [1, 3, 4] ?_
   refine AW.one ?_
   refine AW.block ?_
   refine AW.rp ?_
   refine bx h fun x6 h0 h1 h => ?_
   refine cm h (hself20 _ _) fun r8 hx9 h => ?_
   refine AW.ks [0] [1, 3, 4] ?_
   refine AW.rp ?_
   exact na [0] h
  refine AW.ex ?_
  exact ja [] h
 refine AW.kr [] [3] ?_
 refine AW.ret ?_
 cases h; refine nz ?_; exact .same _
def r08_Size (K : Nat) (p0 : NodeA) : Option Int := iter K (fun self q => r08_Size_body K self q) p0
theorem key_r08_Size {K : Nat} (k : Nat) : (∀ (q : NodeA) (r : Int), iter k (fun self q => r08_Size_body K self q) q = some r → Cn Tryd.prog 20 [aggV q.enc] (.d (.val (.int .i64 r)))) := by
 induction k with
 | zero => exact fun q r h => by cases h
 | succ k ih => exact fun q r h => r08_Size_step K _ ih q r h
theorem r08_Size_ok {K : Nat} {p0 : NodeA} {r : Int} (h : r08_Size K p0 = some r) : Cn Tryd.prog 20 [aggV p0.enc] (.d (.val (.int .i64 r))) := (key_r08_Size K) p0 r h
structure Api_PairA where
 what : NodeA
 with_ : NodeA
 rates : List NodeA
def Api_PairA.enc (x : Api_PairA) : List D := [.val (.int .i64 x.what.op), .val (.string x.what.name), .val (.bool x.what.num.neg), slD u32V x.what.num.num, slD u32V x.what.num.den, slD NodeA.enc x.what.kids, .val (.int .i64 x.with_.op), .val (.string x.with_.name), .val (.bool x.with_.num.neg), slD u32V x.with_.num.num, slD u32V x.with_.num.den, slD NodeA.enc x.with_.kids, slD NodeA.enc x.rates]
theorem Api_PairA.enc_eta (x : Api_PairA) : x.enc = [.val (.int .i64 x.what.op), .val (.string x.what.name), .val (.bool x.what.num.neg), slD u32V x.what.num.num, slD u32V x.what.num.den, slD NodeA.enc x.what.kids, .val (.int .i64 x.with_.op), .val (.string x.with_.name), .val (.bool x.with_.num.neg), slD u32V x.with_.num.num, slD u32V x.with_.num.den, slD NodeA.enc x.with_.kids, slD NodeA.enc x.rates] := rfl
attribute [go_sem] Api_PairA.enc_eta
inductive Api_ProofA where
 | mk (rule : ByteArray) (name : ByteArray) (forms : List NodeA) (subst : List Api_PairA) (path : List Int) (args : List ByteArray) (cert : Api_CertA) (kids : List Api_ProofA)
def Api_ProofA.rule : Api_ProofA → ByteArray | .mk x _ _ _ _ _ _ _ => x
def Api_ProofA.name : Api_ProofA → ByteArray | .mk _ x _ _ _ _ _ _ => x
def Api_ProofA.forms : Api_ProofA → List NodeA | .mk _ _ x _ _ _ _ _ => x
def Api_ProofA.subst : Api_ProofA → List Api_PairA | .mk _ _ _ x _ _ _ _ => x
def Api_ProofA.path : Api_ProofA → List Int | .mk _ _ _ _ x _ _ _ => x
def Api_ProofA.args : Api_ProofA → List ByteArray | .mk _ _ _ _ _ x _ _ => x
def Api_ProofA.cert : Api_ProofA → Api_CertA | .mk _ _ _ _ _ _ x _ => x
def Api_ProofA.kids : Api_ProofA → List Api_ProofA | .mk _ _ _ _ _ _ _ x => x
def Api_ProofA.enc : Api_ProofA → List D
 | .mk rule name forms subst path args cert kids => [.val (.string rule), .val (.string name), slD NodeA.enc forms, slD Api_PairA.enc subst, slD i64V path, slD strV args, .val (.int .i64 cert.kind), slD RatA.enc cert.nums, slD Api_PolyA.enc cert.polys, slD Api_SquareA.enc cert.squares, slD Api_CertA.enc cert.kids, .sl (kids.map Api_ProofA.enc)]
theorem Api_ProofA.enc_eta (x : Api_ProofA) : x.enc = [.val (.string x.rule), .val (.string x.name), slD NodeA.enc x.forms, slD Api_PairA.enc x.subst, slD i64V x.path, slD strV x.args, .val (.int .i64 x.cert.kind), slD RatA.enc x.cert.nums, slD Api_PolyA.enc x.cert.polys, slD Api_SquareA.enc x.cert.squares, slD Api_CertA.enc x.cert.kids, slD Api_ProofA.enc x.kids] := by cases x; rw [Api_ProofA.enc]; rfl
theorem Api_ProofA.rule_mk {rule : ByteArray} {name : ByteArray} {forms : List NodeA} {subst : List Api_PairA} {path : List Int} {args : List ByteArray} {cert : Api_CertA} {kids : List Api_ProofA} : (Api_ProofA.mk rule name forms subst path args cert kids).rule = rule := nrfl rfl
theorem Api_ProofA.name_mk {rule : ByteArray} {name : ByteArray} {forms : List NodeA} {subst : List Api_PairA} {path : List Int} {args : List ByteArray} {cert : Api_CertA} {kids : List Api_ProofA} : (Api_ProofA.mk rule name forms subst path args cert kids).name = name := nrfl rfl
theorem Api_ProofA.forms_mk {rule : ByteArray} {name : ByteArray} {forms : List NodeA} {subst : List Api_PairA} {path : List Int} {args : List ByteArray} {cert : Api_CertA} {kids : List Api_ProofA} : (Api_ProofA.mk rule name forms subst path args cert kids).forms = forms := nrfl rfl
theorem Api_ProofA.subst_mk {rule : ByteArray} {name : ByteArray} {forms : List NodeA} {subst : List Api_PairA} {path : List Int} {args : List ByteArray} {cert : Api_CertA} {kids : List Api_ProofA} : (Api_ProofA.mk rule name forms subst path args cert kids).subst = subst := nrfl rfl
theorem Api_ProofA.path_mk {rule : ByteArray} {name : ByteArray} {forms : List NodeA} {subst : List Api_PairA} {path : List Int} {args : List ByteArray} {cert : Api_CertA} {kids : List Api_ProofA} : (Api_ProofA.mk rule name forms subst path args cert kids).path = path := nrfl rfl
theorem Api_ProofA.args_mk {rule : ByteArray} {name : ByteArray} {forms : List NodeA} {subst : List Api_PairA} {path : List Int} {args : List ByteArray} {cert : Api_CertA} {kids : List Api_ProofA} : (Api_ProofA.mk rule name forms subst path args cert kids).args = args := nrfl rfl
theorem Api_ProofA.cert_mk {rule : ByteArray} {name : ByteArray} {forms : List NodeA} {subst : List Api_PairA} {path : List Int} {args : List ByteArray} {cert : Api_CertA} {kids : List Api_ProofA} : (Api_ProofA.mk rule name forms subst path args cert kids).cert = cert := nrfl rfl
theorem Api_ProofA.kids_mk {rule : ByteArray} {name : ByteArray} {forms : List NodeA} {subst : List Api_PairA} {path : List Int} {args : List ByteArray} {cert : Api_CertA} {kids : List Api_ProofA} : (Api_ProofA.mk rule name forms subst path args cert kids).kids = kids := nrfl rfl
theorem Api_ProofA.kids_lt : ∀ {x k : Api_ProofA}, k ∈ x.kids → SizeOf.sizeOf k < SizeOf.sizeOf x
 | .mk rule name forms subst path args cert kids, k, h => by have := List.sizeOf_lt_of_mem (show k ∈ kids from h); simp only [Api_ProofA.mk.sizeOf_spec]; omega
attribute [go_sem] Api_ProofA.enc_eta Api_ProofA.rule_mk Api_ProofA.name_mk Api_ProofA.forms_mk Api_ProofA.subst_mk Api_ProofA.path_mk Api_ProofA.args_mk Api_ProofA.cert_mk Api_ProofA.kids_mk
/-! ### isochrone/isochronelaw22.weight -/
def law22_weight_body (K : Nat) (self7 : Api_ProofA → Option Int) (p0 : Api_ProofA) : Option Int := (law22_certs K p0.cert).bind fun r1 =>
 ((iter (S := Int × Int) (R := Int) K (fun again (i3_0, i3_1) =>
  if (decide (i3_1 < (p0.forms.length : Int))) then
   (idx p0.forms i3_1).bind fun x8 =>
   (r08_Size K x8).bind fun r10 =>
   again (IntKind.wrap .i64 (i3_0 + r10), IntKind.wrap .i64 (i3_1 + (1 : Int)))
  else
   some i3_0) (IntKind.wrap .i64 ((IntKind.wrap .i64 ((IntKind.wrap .i64 ((1 : Int) + (p0.path.length : Int))) + (p0.args.length : Int))) + r1), (0 : Int))) : Option Int).bind (fun e4_0 =>
 ((iter (S := Int × Int) (R := Int) K (fun again (i12_0, i12_1) =>
  if (decide (i12_1 < (p0.subst.length : Int))) then
   (idx p0.subst i12_1).bind fun x17 =>
   (r08_Size K x17.what).bind fun r19 =>
   (r08_Size K x17.with_).bind fun r21 =>
   ((iter (S := Int × Int) (R := Int) K (fun again (i23_0, i23_1) =>
    if (decide (i23_1 < (x17.rates.length : Int))) then
     (idx x17.rates i23_1).bind fun x28 =>
     (r08_Size K x28).bind fun r30 =>
     again (IntKind.wrap .i64 (i23_0 + r30), IntKind.wrap .i64 (i23_1 + (1 : Int)))
    else
     some i23_0) (IntKind.wrap .i64 (i12_0 + (IntKind.wrap .i64 (r19 + r21))), (0 : Int))) : Option Int).bind (fun e24_0 =>
   again (e24_0, IntKind.wrap .i64 (i12_1 + (1 : Int))))
  else
   some i12_0) (e4_0, (0 : Int))) : Option Int).bind (fun e13_0 =>
 ((iter (S := Int × Int) (R := Int) K (fun again (i32_0, i32_1) =>
  if (decide (i32_1 < (p0.kids.length : Int))) then
   (idx p0.kids i32_1).bind fun x37 =>
   (self7 (x37)).bind fun r39 =>
   again (IntKind.wrap .i64 (i32_0 + r39), IntKind.wrap .i64 (i32_1 + (1 : Int)))
  else
   some i32_0) (e13_0, (0 : Int))) : Option Int).bind (fun e33_0 =>
 some e33_0)))
set_option maxHeartbeats 4000000 in
theorem law22_weight_step (K : Nat) (self7 : Api_ProofA → Option Int) (hself7 : ∀ (q : Api_ProofA) (r : Int), self7 q = some r → Cn Tryd.prog 7 [aggV q.enc] (.d (.val (.int .i64 r)))) (p0 : Api_ProofA) (r : Int) (h : law22_weight_body K self7 p0 = some r) : Cn Tryd.prog 7 [aggV p0.enc] (.d (.val (.int .i64 r))) := by
 refine Cn.oz Tryd.func7 Tryd.call7 Tryd.ntmps7 Tryd.results7 fun hfit => ?_
 unfold law22_weight_body at h
 refine AW.kr [] [0] ?_
 refine AW.kr [0] [1] ?_
 refine pm h law22_certs_ok fun r1 hx2 h => ?_
 refine AW.ks [0] [1, 3] ?_
 refine AW.one ?_
 refine AW.ro ?_
 refine AW.ks [0] [1, 3, 4] ?_
 refine AW.lm h (fun e4_0 => [(1, .ptr 0 12 0 0), (3, vI e4_0)]) (fun e4_0 => [vE p0.enc]) (fun (i3_0, i3_1) => [(1, .ptr 0 12 0 0), (3, vI i3_0), (4, vI i3_1)]) (fun (i3_0, i3_1) => [vE p0.enc]) [0] (fun oJ6 again ⟨i3_0, i3_1⟩ h => ?_) fun e4_0 h => ?_
 ·try dsimp only at h
  refine AW.one ?_
  refine AW.ro ?_
  refine AW.ks [0] [1, 3, 4, 24] ?_
  refine AW.tt h (fun hb7 h => ?_) fun hb7 h => ?_
  ·refine AW.sk ?_
   refine AW.ks [0] [1, 3, 4] ?_
   refine AW.one ?_
   refine AW.block ?_
   refine AW.rp ?_
   refine bx h fun x8 h0 h1 h => ?_
   refine cm h r08_Size_ok fun r10 hx11 h => ?_
   refine AW.ks [0] [1, 3, 4] ?_
   refine AW.rp ?_
   exact na [0] h
  refine AW.ex ?_
  exact ja [0] h
 refine AW.ks [0] [1, 3] ?_
 refine AW.one ?_
 refine AW.ro ?_
 refine AW.ks [0] [1, 3, 5] ?_
 refine AW.lm h (fun e13_0 => [(1, .ptr 0 12 0 0), (3, vI e13_0)]) (fun e13_0 => [vE p0.enc]) (fun (i12_0, i12_1) => [(1, .ptr 0 12 0 0), (3, vI i12_0), (5, vI i12_1)]) (fun (i12_0, i12_1) => [vE p0.enc]) [0] (fun oJ15 again ⟨i12_0, i12_1⟩ h => ?_) fun e13_0 h => ?_
 ·try dsimp only at h
  refine AW.one ?_
  refine AW.ro ?_
  refine AW.ks [0] [1, 3, 5, 39] ?_
  refine AW.tt h (fun hb16 h => ?_) fun hb16 h => ?_
  ·refine AW.sk ?_
   refine AW.ks [0] [1, 3, 5] ?_
   refine AW.one ?_
   refine AW.block ?_
   refine AW.ro ?_
   refine bx h fun x17 h0 h1 h => ?_
   refine pm h r08_Size_ok fun r19 hx20 h => ?_
   refine pm h r08_Size_ok fun r21 hx22 h => ?_
   refine AW.kr [0] [1, 3, 5] ?_
   refine AW.ks [0] [1, 3, 5, 6] ?_
   refine AW.lm h (fun e24_0 => [(1, .ptr 0 12 0 0), (3, vI e24_0), (5, vI i12_1)]) (fun e24_0 => [vE p0.enc]) (fun (i23_0, i23_1) => [(1, .ptr 0 12 0 0), (3, vI i23_0), (5, vI i12_1), (6, vI i23_1)]) (fun (i23_0, i23_1) => [vE p0.enc]) [0] (fun oJ26 again ⟨i23_0, i23_1⟩ h => ?_) fun e24_0 h => ?_
   ·try dsimp only at h
    refine AW.one ?_
    refine AW.ro ?_
    refine AW.ks [0] [1, 3, 5, 6, 67] ?_
    refine AW.tt h (fun hb27 h => ?_) fun hb27 h => ?_
    ·refine AW.sk ?_
     refine AW.ks [0] [1, 3, 5, 6] ?_
     refine AW.one ?_
     refine AW.block ?_
     refine AW.rp ?_
     refine bx h fun x28 h0 h1 h => ?_
     refine cm h r08_Size_ok fun r30 hx31 h => ?_
     refine AW.ks [0] [1, 3, 5, 6] ?_
     refine AW.rp ?_
     exact na [0] h
    refine AW.ex ?_
    exact ja [0] h
   refine AW.ks [0] [1, 3, 5] ?_
   refine AW.rp ?_
   exact na [0] h
  refine AW.ex ?_
  exact ja [0] h
 refine AW.ks [0] [1, 3] ?_
 refine AW.one ?_
 refine AW.ro ?_
 refine AW.ks [0] [1, 3, 7] ?_
 refine AW.lm h (fun e33_0 => [(3, vI e33_0)]) (fun e33_0 => []) (fun (i32_0, i32_1) => [(1, .ptr 0 12 0 0), (3, vI i32_0), (7, vI i32_1)]) (fun (i32_0, i32_1) => [vE p0.enc]) [0] (fun oJ35 again ⟨i32_0, i32_1⟩ h => ?_) fun e33_0 h => ?_
 ·try dsimp only at h
  refine AW.one ?_
  refine AW.ro ?_
  refine AW.ks [0] [1, 3, 7, 86] ?_
  refine AW.tt h (fun hb36 h => ?_) fun hb36 h => ?_
  ·refine AW.sk ?_
   refine AW.ks [0] [1, 3, 7] ?_
   refine AW.one ?_
   refine AW.block ?_
   refine AW.rp ?_
   refine bx h fun x37 h0 h1 h => ?_
   refine cm h (hself7 _ _) fun r39 hx40 h => ?_
   refine AW.ks [0] [1, 3, 7] ?_
   refine AW.rp ?_
   exact na [0] h
  refine AW.ex ?_
  exact ja [] h
 refine AW.kr [] [3] ?_
 refine AW.ret ?_
 cases h; refine nz ?_; exact .same _
def law22_weight (K : Nat) (p0 : Api_ProofA) : Option Int := iter K (fun self q => law22_weight_body K self q) p0
theorem key_law22_weight {K : Nat} (k : Nat) : (∀ (q : Api_ProofA) (r : Int), iter k (fun self q => law22_weight_body K self q) q = some r → Cn Tryd.prog 7 [aggV q.enc] (.d (.val (.int .i64 r)))) := by
 induction k with
 | zero => exact fun q r h => by cases h
 | succ k ih => exact fun q r h => law22_weight_step K _ ih q r h
theorem law22_weight_ok {K : Nat} {p0 : Api_ProofA} {r : Int} (h : law22_weight K p0 = some r) : Cn Tryd.prog 7 [aggV p0.enc] (.d (.val (.int .i64 r))) := (key_law22_weight K) p0 r h
/-! ### isochrone/isochroneref08.less -/
def r08_less (K : Nat) (p0 : Int) (p1 : Int) : Option Int := if (decide (p0 < p1)) then
  some (-1 : Int)
 else
  if (decide (p1 < p0)) then
   some (1 : Int)
  else
   some (0 : Int)
set_option maxHeartbeats 4000000 in
theorem r08_less_ok {K : Nat} {p0 : Int} {p1 : Int} {r : Int} (h : r08_less K p0 p1 = some r) : Cn Tryd.prog 92 [.d (.val (.int .i64 p0)), .d (.val (.int .i64 p1))] (.d (.val (.int .i64 r))) := by
 refine Cn.oz Tryd.func92 Tryd.call92 Tryd.ntmps92 Tryd.results92 fun hfit => ?_
 unfold r08_less at h
 refine AW.kr [] [0, 1] ?_
 refine AW.ks [] [0, 1] ?_
 refine AW.one ?_
 refine AW.ro ?_
 refine AW.ks [] [0, 1, 7] ?_
 refine AW.tk h (fun hb1 h => ?_) fun hb1 h => ?_
 ·refine AW.ro ?_
  refine AW.ret ?_
  cases h; refine nz ?_; exact .same _
 refine AW.ks [] [0, 1] ?_
 refine AW.one ?_
 refine AW.ro ?_
 refine AW.ks [] [10] ?_
 refine AW.tk h (fun hb2 h => ?_) fun hb2 h => ?_
 ·refine AW.ro ?_
  refine AW.ret ?_
  cases h; refine nz ?_; exact .same _
 refine AW.kr [] [] ?_
 refine AW.ret ?_
 cases h; refine nz ?_; exact .same _
/-! ### isochrone/isochroneref08.words -/
def r08_words (K : Nat) (p0 : List Int) (p1 : List Int) : Option Int := if ((p0.length : Int) != (p1.length : Int)) then
  if (decide ((p0.length : Int) < (p1.length : Int))) then
   some (-1 : Int)
  else
   some (1 : Int)
 else
  ((iter (S := Int) (R := Out Unit _) K (fun again i3_0 =>
   if (decide ((0 : Int) ≤ i3_0)) then
    (idx p0 i3_0).bind fun x8 =>
    (idx p1 i3_0).bind fun x10 =>
    if (x8 != x10) then
     if (decide (x8 < x10)) then
      outM (
       some (-1 : Int))
     else
      outM (
       some (1 : Int))
    else
     again (IntKind.wrap .i64 (i3_0 - (1 : Int)))
   else
    some (.go ())) (IntKind.wrap .i64 ((p0.length : Int) - (1 : Int)))) : Option (Out Unit _)).bind (Out.fin fun _ =>
  some (0 : Int))
set_option maxHeartbeats 4000000 in
theorem r08_words_ok {K : Nat} {p0 : List Int} {p1 : List Int} {r : Int} (h : r08_words K p0 p1 = some r) : Cn Tryd.prog 93 [.d (slD u32V p0), .d (slD u32V p1)] (.d (.val (.int .i64 r))) := by
 refine Cn.oz Tryd.func93 Tryd.call93 Tryd.ntmps93 Tryd.results93 fun hfit => ?_
 unfold r08_words at h
 refine AW.kr [] [0, 1] ?_
 refine AW.ks [] [0, 1] ?_
 refine AW.one ?_
 refine AW.ro ?_
 refine AW.ks [] [0, 1, 10] ?_
 refine AW.tk h (fun hb1 h => ?_) fun hb1 h => ?_
 ·refine AW.one ?_
  refine AW.ro ?_
  refine AW.ks [] [15] ?_
  refine AW.tk h (fun hb2 h => ?_) fun hb2 h => ?_
  ·refine AW.ro ?_
   refine AW.ret ?_
   cases h; refine nz ?_; exact .same _
  refine AW.kr [] [] ?_
  refine AW.ret ?_
  cases h; refine nz ?_; exact .same _
 refine AW.ks [] [0, 1] ?_
 refine AW.one ?_
 refine AW.ro ?_
 refine AW.ks [] [0, 1, 5] ?_
 refine AW.lp h (fun _ => []) (fun _ => []) (fun i3_0 => [(0, vL u32V p0), (1, vL u32V p1), (5, vI i3_0)]) (fun i3_0 => []) [] (fun oJ6 hJ6 again i3_0 h => ?_) fun ⟨⟩ h => ?_
 ·refine AW.one ?_
  refine AW.ro ?_
  refine AW.ks [] [0, 1, 5, 20] ?_
  refine AW.tt h (fun hb7 h => ?_) fun hb7 h => ?_
  ·refine AW.sk ?_
   refine AW.ks [] [0, 1, 5] ?_
   refine AW.one ?_
   refine AW.block ?_
   refine AW.ro ?_
   refine bx h fun x8 h0 h1 h => ?_
   refine bx h fun x10 h0 h1 h => ?_
   refine AW.ks [] [0, 1, 5, 31] ?_
   refine AW.tk h (fun hb12 h => ?_) fun hb12 h => ?_
   ·refine AW.one ?_
    refine AW.ro ?_
    refine AW.ks [] [40] ?_
    refine AW.tk h (fun hb13 h => ?_) fun hb13 h => ?_
    ·refine AW.ro ?_
     refine AW.ret ?_
     have h := up h hJ6
     cases h; refine nz ?_; exact .same _
    refine AW.kr [] [] ?_
    refine AW.ret ?_
    have h := up h hJ6
    cases h; refine nz ?_; exact .same _
   refine AW.ks [] [0, 1, 5] ?_
   refine AW.rp ?_
   exact na [] h
  refine AW.ex ?_
  exact jo [] h
 refine AW.kr [] [] ?_
 refine AW.ret ?_
 cases h; refine nz ?_; exact .same _
/-! ### isochrone/isochroneref08.Compare -/
def r08_Compare_body (K : Nat) (self73 : (NodeA × NodeA) → Option Int) (p0 : NodeA) (p1 : NodeA) : Option Int := (r08_less K p0.op p1.op).bind fun r1 =>
 if (r1 != (0 : Int)) then
  some r1
 else
  if (!(p0.name.toList == p1.name.toList)) then
   if (Op.bytesLess p0.name.toList p1.name.toList) then
    some (-1 : Int)
   else
    some (1 : Int)
  else
   if (!(p0.num.neg == p1.num.neg)) then
    if p1.num.neg then
     some (-1 : Int)
    else
     some (1 : Int)
   else
    (r08_words K p0.num.num p1.num.num).bind fun r8 =>
    if (r8 != (0 : Int)) then
     some r8
    else
     (r08_words K p0.num.den p1.num.den).bind fun r11 =>
     if (r11 != (0 : Int)) then
      some r11
     else
      (r08_less K (p0.kids.length : Int) (p1.kids.length : Int)).bind fun r14 =>
      if (r14 != (0 : Int)) then
       some r14
      else
       ((iter (S := Int) (R := Out Unit _) K (fun again i17_0 =>
        if (decide (i17_0 < (p0.kids.length : Int))) then
         (idx p0.kids i17_0).bind fun x22 =>
         (idx p1.kids i17_0).bind fun x24 =>
         (self73 (x22, x24)).bind fun r26 =>
         if (r26 != (0 : Int)) then
          outM (
           some r26)
         else
          again (IntKind.wrap .i64 (i17_0 + (1 : Int)))
        else
         some (.go ())) (0 : Int)) : Option (Out Unit _)).bind (Out.fin fun _ =>
       some (0 : Int))
set_option maxHeartbeats 4000000 in
theorem r08_Compare_step (K : Nat) (self73 : (NodeA × NodeA) → Option Int) (hself73 : ∀ (q : NodeA × NodeA) (r : Int), self73 q = some r → Cn Tryd.prog 73 [aggV q.1.enc, aggV q.2.enc] (.d (.val (.int .i64 r)))) (p0 : NodeA) (p1 : NodeA) (r : Int) (h : r08_Compare_body K self73 p0 p1 = some r) : Cn Tryd.prog 73 [aggV p0.enc, aggV p1.enc] (.d (.val (.int .i64 r))) := by
 refine Cn.oz Tryd.func73 Tryd.call73 Tryd.ntmps73 Tryd.results73 fun hfit => ?_
 unfold r08_Compare_body at h
 refine AW.kr [] [0, 1] ?_
 refine AW.ks [0, 1] [2, 3] ?_
 refine AW.one ?_
 refine AW.ro ?_
 refine cm h r08_less_ok fun r1 hx2 h => ?_
 refine AW.kr [0, 1] [2, 3, 5] ?_
 refine AW.ks [0, 1] [2, 3, 5, 17] ?_
 refine AW.tk h (fun hb3 h => ?_) fun hb3 h => ?_
 ·refine AW.ro ?_
  refine AW.ret ?_
  cases h; refine nz ?_; exact .same _
 refine AW.ks [0, 1] [2, 3] ?_
 refine AW.one ?_
 refine AW.ro ?_
 refine AW.ks [0, 1] [2, 3, 23] ?_
 refine AW.tk h (fun hb4 h => ?_) fun hb4 h => ?_
 ·refine AW.one ?_
  refine AW.ro ?_
  refine AW.ks [] [28] ?_
  refine AW.tk h (fun hb5 h => ?_) fun hb5 h => ?_
  ·refine AW.ro ?_
   refine AW.ret ?_
   cases h; refine nz ?_; exact .same _
  refine AW.kr [] [] ?_
  refine AW.ret ?_
  cases h; refine nz ?_; exact .same _
 refine AW.ks [0, 1] [2, 3] ?_
 refine AW.one ?_
 refine AW.ro ?_
 refine AW.ks [0, 1] [2, 3, 35] ?_
 refine AW.tk h (fun hb6 h => ?_) fun hb6 h => ?_
 ·refine AW.one ?_
  refine AW.ro ?_
  refine AW.ks [] [38] ?_
  refine AW.tk h (fun hb7 h => ?_) fun hb7 h => ?_
  ·refine AW.ro ?_
   refine AW.ret ?_
   cases h; refine nz ?_; exact .same _
  refine AW.kr [] [] ?_
  refine AW.ret ?_
  cases h; refine nz ?_; exact .same _
 refine AW.ks [0, 1] [2, 3] ?_
 refine AW.one ?_
 refine AW.ro ?_
 refine cm h r08_words_ok fun r8 hx9 h => ?_
 refine AW.kr [0, 1] [2, 3, 6] ?_
 refine AW.ks [0, 1] [2, 3, 6, 47] ?_
 refine AW.tk h (fun hb10 h => ?_) fun hb10 h => ?_
 ·refine AW.ro ?_
  refine AW.ret ?_
  cases h; refine nz ?_; exact .same _
 refine AW.ks [0, 1] [2, 3] ?_
 refine AW.one ?_
 refine AW.ro ?_
 refine cm h r08_words_ok fun r11 hx12 h => ?_
 refine AW.kr [0, 1] [2, 3, 7] ?_
 refine AW.ks [0, 1] [2, 3, 7, 57] ?_
 refine AW.tk h (fun hb13 h => ?_) fun hb13 h => ?_
 ·refine AW.ro ?_
  refine AW.ret ?_
  cases h; refine nz ?_; exact .same _
 refine AW.ks [0, 1] [2, 3] ?_
 refine AW.one ?_
 refine AW.ro ?_
 refine cm h r08_less_ok fun r14 hx15 h => ?_
 refine AW.kr [0, 1] [2, 3, 8] ?_
 refine AW.ks [0, 1] [2, 3, 8, 67] ?_
 refine AW.tk h (fun hb16 h => ?_) fun hb16 h => ?_
 ·refine AW.ro ?_
  refine AW.ret ?_
  cases h; refine nz ?_; exact .same _
 refine AW.ks [0, 1] [2, 3] ?_
 refine AW.one ?_
 refine AW.ro ?_
 refine AW.ks [0, 1] [2, 3, 9] ?_
 refine AW.lp h (fun _ => []) (fun _ => []) (fun i17_0 => [(2, .ptr 0 6 0 0), (3, .ptr 1 6 0 0), (9, vI i17_0)]) (fun i17_0 => [vE p0.enc, vE p1.enc]) [0, 1] (fun oJ20 hJ20 again i17_0 h => ?_) fun ⟨⟩ h => ?_
 ·refine AW.one ?_
  refine AW.ro ?_
  refine AW.ks [0, 1] [2, 3, 9, 73] ?_
  refine AW.tt h (fun hb21 h => ?_) fun hb21 h => ?_
  ·refine AW.sk ?_
   refine AW.ks [0, 1] [2, 3, 9] ?_
   refine AW.one ?_
   refine AW.block ?_
   refine AW.ro ?_
   refine bx h fun x22 h0 h1 h => ?_
   refine bx h fun x24 h0 h1 h => ?_
   refine pm h (hself73 _ _) fun r26 hx27 h => ?_
   refine AW.kr [0, 1] [2, 3, 9, 10] ?_
   refine AW.ks [0, 1] [2, 3, 9, 10, 88] ?_
   refine AW.tk h (fun hb28 h => ?_) fun hb28 h => ?_
   ·refine AW.ro ?_
    refine AW.ret ?_
    have h := up h hJ20
    cases h; refine nz ?_; exact .same _
   refine AW.ks [0, 1] [2, 3, 9] ?_
   refine AW.rp ?_
   exact na [0, 1] h
  refine AW.ex ?_
  exact jo [] h
 refine AW.kr [] [] ?_
 refine AW.ret ?_
 cases h; refine nz ?_; exact .same _
def r08_Compare (K : Nat) (p0 : NodeA) (p1 : NodeA) : Option Int := iter K (fun self q => r08_Compare_body K self q.1 q.2) (p0, p1)
theorem key_r08_Compare {K : Nat} (k : Nat) : (∀ (q : NodeA × NodeA) (r : Int), iter k (fun self q => r08_Compare_body K self q.1 q.2) q = some r → Cn Tryd.prog 73 [aggV q.1.enc, aggV q.2.enc] (.d (.val (.int .i64 r)))) := by
 induction k with
 | zero => exact fun q r h => by cases h
 | succ k ih => exact fun q r h => r08_Compare_step K _ ih q.1 q.2 r h
theorem r08_Compare_ok {K : Nat} {p0 : NodeA} {p1 : NodeA} {r : Int} (h : r08_Compare K p0 p1 = some r) : Cn Tryd.prog 73 [aggV p0.enc, aggV p1.enc] (.d (.val (.int .i64 r))) := (key_r08_Compare K) (p0, p1) r h
/-! ### isochrone/isochroneref08.Equal -/
def r08_Equal (K : Nat) (p0 : NodeA) (p1 : NodeA) : Option Bool := (r08_Compare K p0 p1).bind fun r1 =>
 some (r1 == (0 : Int))
set_option maxHeartbeats 4000000 in
theorem r08_Equal_ok {K : Nat} {p0 : NodeA} {p1 : NodeA} {r : Bool} (h : r08_Equal K p0 p1 = some r) : Cn Tryd.prog 64 [aggV p0.enc, aggV p1.enc] (.d (.val (.bool r))) := by
 refine Cn.oz Tryd.func64 Tryd.call64 Tryd.ntmps64 Tryd.results64 fun hfit => ?_
 unfold r08_Equal at h
 refine AW.kr [] [0, 1] ?_
 refine AW.kr [0, 1] [2, 3] ?_
 refine cm h r08_Compare_ok fun r1 hx2 h => ?_
 refine AW.ret ?_
 cases h; refine nz ?_; exact .same _
/-! ### isochrone/isochroneref08.SameNodes -/
def r08_SameNodes (K : Nat) (p0 : List NodeA) (p1 : List NodeA) : Option Bool := if ((p0.length : Int) != (p1.length : Int)) then
  some false
 else
  ((iter (S := Int) (R := Out Unit _) K (fun again i2_0 =>
   if (decide (i2_0 < (p0.length : Int))) then
    (idx p0 i2_0).bind fun x7 =>
    (idx p1 i2_0).bind fun x9 =>
    (r08_Equal K x7 x9).bind fun r11 =>
    if (!r11) then
     outM (
      some false)
    else
     again (IntKind.wrap .i64 (i2_0 + (1 : Int)))
   else
    some (.go ())) (0 : Int)) : Option (Out Unit _)).bind (Out.fin fun _ =>
  some true)
set_option maxHeartbeats 4000000 in
theorem r08_SameNodes_ok {K : Nat} {p0 : List NodeA} {p1 : List NodeA} {r : Bool} (h : r08_SameNodes K p0 p1 = some r) : Cn Tryd.prog 51 [.d (slD NodeA.enc p0), .d (slD NodeA.enc p1)] (.d (.val (.bool r))) := by
 refine Cn.oz Tryd.func51 Tryd.call51 Tryd.ntmps51 Tryd.results51 fun hfit => ?_
 unfold r08_SameNodes at h
 refine AW.kr [] [0, 1] ?_
 refine AW.ks [] [0, 1] ?_
 refine AW.one ?_
 refine AW.ro ?_
 refine AW.ks [] [0, 1, 10] ?_
 refine AW.tk h (fun hb1 h => ?_) fun hb1 h => ?_
 ·refine AW.ro ?_
  refine AW.ret ?_
  cases h; refine nz ?_; exact .same _
 refine AW.ks [] [0, 1] ?_
 refine AW.one ?_
 refine AW.ro ?_
 refine AW.ks [] [0, 1, 5] ?_
 refine AW.lp h (fun _ => []) (fun _ => []) (fun i2_0 => [(0, vL NodeA.enc p0), (1, vL NodeA.enc p1), (5, vI i2_0)]) (fun i2_0 => []) [] (fun oJ5 hJ5 again i2_0 h => ?_) fun ⟨⟩ h => ?_
 ·refine AW.one ?_
  refine AW.ro ?_
  refine AW.ks [] [0, 1, 5, 14] ?_
  refine AW.tt h (fun hb6 h => ?_) fun hb6 h => ?_
  ·refine AW.sk ?_
   refine AW.ks [] [0, 1, 5] ?_
   refine AW.one ?_
   refine AW.block ?_
   refine AW.ro ?_
   refine bx h fun x7 h0 h1 h => ?_
   refine bx h fun x9 h0 h1 h => ?_
   refine pm h r08_Equal_ok fun r11 hx12 h => ?_
   refine AW.ks [] [0, 1, 5, 26] ?_
   refine AW.tk h (fun hb13 h => ?_) fun hb13 h => ?_
   ·refine AW.ro ?_
    refine AW.ret ?_
    have h := up h hJ5
    cases h; refine nz ?_; exact .same _
   refine AW.ks [] [0, 1, 5] ?_
   refine AW.rp ?_
   exact na [] h
  refine AW.ex ?_
  exact jo [] h
 refine AW.kr [] [] ?_
 refine AW.ret ?_
 cases h; refine nz ?_; exact .same _
/-! ### isochrone/isochroneref08.SamePath -/
def r08_SamePath (K : Nat) (p0 : List Int) (p1 : List Int) : Option Bool := if ((p0.length : Int) != (p1.length : Int)) then
  some false
 else
  ((iter (S := Int) (R := Out Unit _) K (fun again i2_0 =>
   if (decide (i2_0 < (p0.length : Int))) then
    (idx p0 i2_0).bind fun x7 =>
    (idx p1 i2_0).bind fun x9 =>
    if (x7 != x9) then
     outM (
      some false)
    else
     again (IntKind.wrap .i64 (i2_0 + (1 : Int)))
   else
    some (.go ())) (0 : Int)) : Option (Out Unit _)).bind (Out.fin fun _ =>
  some true)
set_option maxHeartbeats 4000000 in
theorem r08_SamePath_ok {K : Nat} {p0 : List Int} {p1 : List Int} {r : Bool} (h : r08_SamePath K p0 p1 = some r) : Cn Tryd.prog 53 [.d (slD i64V p0), .d (slD i64V p1)] (.d (.val (.bool r))) := by
 refine Cn.oz Tryd.func53 Tryd.call53 Tryd.ntmps53 Tryd.results53 fun hfit => ?_
 unfold r08_SamePath at h
 refine AW.kr [] [0, 1] ?_
 refine AW.ks [] [0, 1] ?_
 refine AW.one ?_
 refine AW.ro ?_
 refine AW.ks [] [0, 1, 10] ?_
 refine AW.tk h (fun hb1 h => ?_) fun hb1 h => ?_
 ·refine AW.ro ?_
  refine AW.ret ?_
  cases h; refine nz ?_; exact .same _
 refine AW.ks [] [0, 1] ?_
 refine AW.one ?_
 refine AW.ro ?_
 refine AW.ks [] [0, 1, 5] ?_
 refine AW.lp h (fun _ => []) (fun _ => []) (fun i2_0 => [(0, vL i64V p0), (1, vL i64V p1), (5, vI i2_0)]) (fun i2_0 => []) [] (fun oJ5 hJ5 again i2_0 h => ?_) fun ⟨⟩ h => ?_
 ·refine AW.one ?_
  refine AW.ro ?_
  refine AW.ks [] [0, 1, 5, 14] ?_
  refine AW.tt h (fun hb6 h => ?_) fun hb6 h => ?_
  ·refine AW.sk ?_
   refine AW.ks [] [0, 1, 5] ?_
   refine AW.one ?_
   refine AW.block ?_
   refine AW.ro ?_
   refine bx h fun x7 h0 h1 h => ?_
   refine bx h fun x9 h0 h1 h => ?_
   refine AW.ks [] [0, 1, 5, 25] ?_
   refine AW.tk h (fun hb11 h => ?_) fun hb11 h => ?_
   ·refine AW.ro ?_
    refine AW.ret ?_
    have h := up h hJ5
    cases h; refine nz ?_; exact .same _
   refine AW.ks [] [0, 1, 5] ?_
   refine AW.rp ?_
   exact na [] h
  refine AW.ex ?_
  exact jo [] h
 refine AW.kr [] [] ?_
 refine AW.ret ?_
 cases h; refine nz ?_; exact .same _
/-! ### isochrone/isochroneref17.SamePairs -/
def r17_SamePairs (K : Nat) (p0 : List Api_PairA) (p1 : List Api_PairA) : Option Bool := if ((p0.length : Int) != (p1.length : Int)) then
  some false
 else
  ((iter (S := Int) (R := Out Unit _) K (fun again i2_0 =>
   if (decide (i2_0 < (p0.length : Int))) then
    ((
     ((
      (idx p0 i2_0).bind fun x11 =>
      (idx p1 i2_0).bind fun x13 =>
      (r08_Equal K x11.what x13.what).bind fun r15 =>
      if (!r15) then
       some true
      else
       (r08_Equal K x11.with_ x13.with_).bind fun r18 =>
       if (!r18) then
        some true
       else
        (r08_SameNodes K x11.rates x13.rates).bind fun r21 =>
        some (!r21)) : Option Bool).bind (fun v9_0 =>
     if v9_0 then
      outM (
       outM (
        some false))
     else
      some (.go ()))) : Option (Out Unit _)).bind (Out.fin fun _ =>
    again (IntKind.wrap .i64 (i2_0 + (1 : Int))))
   else
    some (.go ())) (0 : Int)) : Option (Out Unit _)).bind (Out.fin fun _ =>
  some true)
set_option maxHeartbeats 4000000 in
theorem r17_SamePairs_ok {K : Nat} {p0 : List Api_PairA} {p1 : List Api_PairA} {r : Bool} (h : r17_SamePairs K p0 p1 = some r) : Cn Tryd.prog 52 [.d (slD Api_PairA.enc p0), .d (slD Api_PairA.enc p1)] (.d (.val (.bool r))) := by
 refine Cn.oz Tryd.func52 Tryd.call52 Tryd.ntmps52 Tryd.results52 fun hfit => ?_
 unfold r17_SamePairs at h
 refine AW.kr [] [0, 1] ?_
 refine AW.ks [] [0, 1] ?_
 refine AW.one ?_
 refine AW.ro ?_
 refine AW.ks [] [0, 1, 10] ?_
 refine AW.tk h (fun hb1 h => ?_) fun hb1 h => ?_
 ·refine AW.ro ?_
  refine AW.ret ?_
  cases h; refine nz ?_; exact .same _
 refine AW.ks [] [0, 1] ?_
 refine AW.one ?_
 refine AW.ro ?_
 refine AW.ks [] [0, 1, 5] ?_
 refine AW.lp h (fun _ => []) (fun _ => []) (fun i2_0 => [(0, vL Api_PairA.enc p0), (1, vL Api_PairA.enc p1), (5, vI i2_0)]) (fun i2_0 => []) [] (fun oJ5 hJ5 again i2_0 h => ?_) fun ⟨⟩ h => ?_
 ·refine AW.one ?_
  refine AW.ro ?_
  refine AW.ks [] [0, 1, 5, 14] ?_
  refine AW.tt h (fun hb6 h => ?_) fun hb6 h => ?_
  ·refine AW.sk ?_
   refine AW.ks [] [0, 1, 5] ?_
   refine AW.jo h (fun _ => [(0, vL Api_PairA.enc p0), (1, vL Api_PairA.enc p1), (5, vI i2_0)]) (fun _ => []) (fun oJ8 h hJ8 => ?_) fun ⟨⟩ h => ?_
   ·refine AW.block ?_
    refine AW.jn h (fun v9_0 => [(0, vL Api_PairA.enc p0), (1, vL Api_PairA.enc p1), (5, vI i2_0), (56, vB v9_0)]) (fun v9_0 => []) (fun oJ10 h => ?_) fun v9_0 h => ?_
    ·refine AW.rp ?_
     refine bx h fun x11 h0 h1 h => ?_
     refine bx h fun x13 h0 h1 h => ?_
     refine pm h r08_Equal_ok fun r15 hx16 h => ?_
     refine sK h (fun hb17 h => ?_) fun hb17 h => ?_
     ·exact ja [] h
     refine pm h r08_Equal_ok fun r18 hx19 h => ?_
     refine sK h (fun hb20 h => ?_) fun hb20 h => ?_
     ·exact ja [] h
     refine pm h r08_SameNodes_ok fun r21 hx22 h => ?_
     exact ja [] h
    refine AW.tk h (fun hb23 h => ?_) fun hb23 h => ?_
    ·refine AW.ro ?_
     refine AW.ret ?_
     have h := up h hJ8
     have h := up h hJ5
     cases h; refine nz ?_; exact .same _
    exact jo [] h
   refine AW.rp ?_
   exact na [] h
  refine AW.ex ?_
  exact jo [] h
 refine AW.kr [] [] ?_
 refine AW.ret ?_
 cases h; refine nz ?_; exact .same _
/-! ### slices.Equal[[]uint32,uint32] -/
def slices_Equal_uint32_uint32 (K : Nat) (p0 : List Int) (p1 : List Int) : Option Bool := if ((p0.length : Int) != (p1.length : Int)) then
  some false
 else
  ((iter (S := Int) (R := Out Unit _) K (fun again i2_0 =>
   if (decide (i2_0 < (p0.length : Int))) then
    (idx p0 i2_0).bind fun x7 =>
    (idx p1 i2_0).bind fun x9 =>
    if (x7 != x9) then
     outM (
      some false)
    else
     again (IntKind.wrap .i64 (i2_0 + (1 : Int)))
   else
    some (.go ())) (0 : Int)) : Option (Out Unit _)).bind (Out.fin fun _ =>
  some true)
set_option maxHeartbeats 4000000 in
theorem slices_Equal_uint32_uint32_ok {K : Nat} {p0 : List Int} {p1 : List Int} {r : Bool} (h : slices_Equal_uint32_uint32 K p0 p1 = some r) : Cn Tryd.prog 74 [.d (slD u32V p0), .d (slD u32V p1)] (.d (.val (.bool r))) := by
 refine Cn.oz Tryd.func74 Tryd.call74 Tryd.ntmps74 Tryd.results74 fun hfit => ?_
 unfold slices_Equal_uint32_uint32 at h
 refine AW.kr [] [0, 1] ?_
 refine AW.ks [] [0, 1] ?_
 refine AW.one ?_
 refine AW.ro ?_
 refine AW.ks [] [0, 1, 10] ?_
 refine AW.tk h (fun hb1 h => ?_) fun hb1 h => ?_
 ·refine AW.ro ?_
  refine AW.ret ?_
  cases h; refine nz ?_; exact .same _
 refine AW.ks [] [0, 1] ?_
 refine AW.one ?_
 refine AW.ro ?_
 refine AW.ks [] [0, 1, 12, 13] ?_
 refine AW.lp h (fun _ => []) (fun _ => []) (fun i2_0 => [(0, vL u32V p0), (1, vL u32V p1), (12, vI (p0.length : Int)), (13, vI i2_0)]) (fun i2_0 => []) [] (fun oJ5 hJ5 again i2_0 h => ?_) fun ⟨⟩ h => ?_
 ·refine AW.ro ?_
  refine AW.ks [] [0, 1, 12, 13, 14] ?_
  refine AW.one ?_
  refine AW.tt h (fun hb6 h => ?_) fun hb6 h => ?_
  ·refine AW.sk ?_
   refine AW.ks [] [0, 1, 12, 13] ?_
   refine AW.one ?_
   refine AW.block ?_
   refine AW.ro ?_
   refine AW.kr [] [0, 1, 5, 12, 13] ?_
   refine bx h fun x7 h0 h1 h => ?_
   refine bx h fun x9 h0 h1 h => ?_
   refine AW.ks [] [0, 1, 12, 13, 24] ?_
   refine AW.tk h (fun hb11 h => ?_) fun hb11 h => ?_
   ·refine AW.ro ?_
    refine AW.ret ?_
    have h := up h hJ5
    cases h; refine nz ?_; exact .same _
   refine AW.ks [] [0, 1, 12, 13] ?_
   refine AW.rp ?_
   exact na [] h
  refine AW.ex ?_
  exact jo [] h
 refine AW.kr [] [] ?_
 refine AW.ret ?_
 cases h; refine nz ?_; exact .same _
/-! ### isochrone/isochroneref02.Same -/
def r02_Same (K : Nat) (p0 : RatA) (p1 : RatA) : Option Bool := if (p0.neg == p1.neg) then
  (slices_Equal_uint32_uint32 K p0.num p1.num).bind fun r2 =>
  if r2 then
   (slices_Equal_uint32_uint32 K p0.den p1.den).bind fun r5 =>
   some r5
  else
   some false
 else
  some false
set_option maxHeartbeats 4000000 in
theorem r02_Same_ok {K : Nat} {p0 : RatA} {p1 : RatA} {r : Bool} (h : r02_Same K p0 p1 = some r) : Cn Tryd.prog 67 [aggV p0.enc, aggV p1.enc] (.d (.val (.bool r))) := by
 refine Cn.oz Tryd.func67 Tryd.call67 Tryd.ntmps67 Tryd.results67 fun hfit => ?_
 unfold r02_Same at h
 refine AW.kr [] [0, 1] ?_
 refine AW.kr [0, 1] [2, 3] ?_
 refine sK h (fun hb1 h => ?_) fun hb1 h => ?_
 ·refine cm h slices_Equal_uint32_uint32_ok fun r2 hx3 h => ?_
  refine sK h (fun hb4 h => ?_) fun hb4 h => ?_
  ·refine cm h slices_Equal_uint32_uint32_ok fun r5 hx6 h => ?_
   refine AW.ret ?_
   cases h; refine nz ?_; exact .same _
  refine AW.ret ?_
  cases h; refine nz ?_; exact .same _
 refine AW.ret ?_
 cases h; refine nz ?_; exact .same _
/-! ### isochrone/isochroneref03.Same -/
def r03_Same (K : Nat) (p0 : Api_PolyA) (p1 : Api_PolyA) : Option Bool := ((
  ((
   if (p0.n != p1.n) then
    some true
   else
    some ((p0.terms.length : Int) != (p1.terms.length : Int))) : Option Bool).bind (fun v3_0 =>
  if v3_0 then
   outM (
    some false)
  else
   some (.go ()))) : Option (Out Unit _)).bind (Out.fin fun _ =>
 ((iter (S := Int) (R := Out Unit _) K (fun again i7_0 =>
  if (decide (i7_0 < (p0.terms.length : Int))) then
   ((
    (idx p0.terms i7_0).bind fun x14 =>
    (idx p1.terms i7_0).bind fun x16 =>
    ((
     ((
      if ((x14.exps.length : Int) != (x16.exps.length : Int)) then
       some true
      else
       (r02_Same K x14.coef x16.coef).bind fun r23 =>
       some (!r23)) : Option Bool).bind (fun v20_0 =>
     if v20_0 then
      outM (
       outM (
        outM (
         some false)))
     else
      some (.go ()))) : Option (Out Unit _)).bind (Out.fin fun _ =>
    ((iter (S := Int) (R := Out Unit _) K (fun again i26_0 =>
     if (decide (i26_0 < (x14.exps.length : Int))) then
      (idx x14.exps i26_0).bind fun x31 =>
      (idx x16.exps i26_0).bind fun x33 =>
      if (x31 != x33) then
       outM (
        outM (
         outM (
          some false)))
      else
       again (IntKind.wrap .i64 (i26_0 + (1 : Int)))
     else
      some (.go ())) (0 : Int)) : Option (Out Unit _)).bind (Out.fin fun _ =>
    some (.go ())))) : Option (Out Unit _)).bind (Out.fin fun _ =>
   again (IntKind.wrap .i64 (i7_0 + (1 : Int))))
  else
   some (.go ())) (0 : Int)) : Option (Out Unit _)).bind (Out.fin fun _ =>
 some true))
set_option maxHeartbeats 4000000 in
theorem r03_Same_ok {K : Nat} {p0 : Api_PolyA} {p1 : Api_PolyA} {r : Bool} (h : r03_Same K p0 p1 = some r) : Cn Tryd.prog 66 [aggV p0.enc, aggV p1.enc] (.d (.val (.bool r))) := by
 refine Cn.oz Tryd.func66 Tryd.call66 Tryd.ntmps66 Tryd.results66 fun hfit => ?_
 unfold r03_Same at h
 refine AW.kr [] [0, 1] ?_
 refine AW.ks [0, 1] [2, 3] ?_
 refine AW.jo h (fun _ => [(2, .ptr 0 2 0 0), (3, .ptr 1 2 0 0)]) (fun _ => [vE p0.enc, vE p1.enc]) (fun oJ2 h hJ2 => ?_) fun ⟨⟩ h => ?_
 ·refine AW.jn h (fun v3_0 => [(2, .ptr 0 2 0 0), (3, .ptr 1 2 0 0), (22, vB v3_0)]) (fun v3_0 => [vE p0.enc, vE p1.enc]) (fun oJ4 h => ?_) fun v3_0 h => ?_
  ·refine AW.rp ?_
   refine sK h (fun hb5 h => ?_) fun hb5 h => ?_
   ·exact ja [0, 1] h
   exact ja [0, 1] h
  refine AW.tk h (fun hb6 h => ?_) fun hb6 h => ?_
  ·refine AW.ro ?_
   refine AW.ret ?_
   have h := up h hJ2
   cases h; refine nz ?_; exact .same _
  exact jo [0, 1] h
 refine AW.one ?_
 refine AW.ro ?_
 refine AW.ks [1] [3, 24, 25, 26] ?_
 refine AW.lp h (fun _ => []) (fun _ => []) (fun i7_0 => [(3, .ptr 0 2 0 0), (24, vL Api_MonoA.enc p0.terms), (25, vI (p0.terms.length : Int)), (26, vI i7_0)]) (fun i7_0 => [vE p1.enc]) [0] (fun oJ10 hJ10 again i7_0 h => ?_) fun ⟨⟩ h => ?_
 ·refine AW.ro ?_
  refine AW.ks [0] [3, 24, 25, 26, 27] ?_
  refine AW.one ?_
  refine AW.tt h (fun hb11 h => ?_) fun hb11 h => ?_
  ·refine AW.sk ?_
   refine AW.ks [0] [3, 24, 25, 26] ?_
   refine AW.jo h (fun _ => [(3, .ptr 0 2 0 0), (24, vL Api_MonoA.enc p0.terms), (25, vI (p0.terms.length : Int)), (26, vI i7_0)]) (fun _ => [vE p1.enc]) (fun oJ13 h hJ13 => ?_) fun ⟨⟩ h => ?_
   ·refine AW.block ?_
    refine AW.ro ?_
    refine bx h fun x14 h0 h1 h => ?_
    refine AW.kr [0, 4] [3, 5, 6, 24, 25, 26] ?_
    refine bx h fun x16 h0 h1 h => ?_
    refine AW.ks [0, 1, 7] [3, 6, 7, 24, 25, 26] ?_
    refine AW.jo h (fun _ => [(3, .ptr 0 2 0 0), (6, .ptr 1 4 0 0), (7, .ptr 2 4 0 0), (24, vL Api_MonoA.enc p0.terms), (25, vI (p0.terms.length : Int)), (26, vI i7_0)]) (fun _ => [vE p1.enc, vE x14.enc, vE x16.enc]) (fun oJ19 h hJ19 => ?_) fun ⟨⟩ h => ?_
    ·refine AW.jn h (fun v20_0 => [(3, .ptr 0 2 0 0), (6, .ptr 1 4 0 0), (7, .ptr 2 4 0 0), (24, vL Api_MonoA.enc p0.terms), (25, vI (p0.terms.length : Int)), (26, vI i7_0), (50, vB v20_0)]) (fun v20_0 => [vE p1.enc, vE x14.enc, vE x16.enc]) (fun oJ21 h => ?_) fun v20_0 h => ?_
     ·refine AW.rp ?_
      refine sK h (fun hb22 h => ?_) fun hb22 h => ?_
      ·exact ja [0, 1, 2] h
      refine cm h r02_Same_ok fun r23 hx24 h => ?_
      exact ja [0, 1, 2] h
     refine AW.tk h (fun hb25 h => ?_) fun hb25 h => ?_
     ·refine AW.ro ?_
      refine AW.ret ?_
      have h := up h hJ19
      have h := up h hJ13
      have h := up h hJ10
      cases h; refine nz ?_; exact .same _
     exact jo [0, 1, 2] h
    refine AW.ro ?_
    refine AW.ks [0, 1, 2] [3, 6, 7, 24, 25, 26, 53, 54] ?_
    refine AW.lp h (fun _ => [(3, .ptr 0 2 0 0), (24, vL Api_MonoA.enc p0.terms), (25, vI (p0.terms.length : Int)), (26, vI i7_0)]) (fun _ => [vE p1.enc]) (fun i26_0 => [(3, .ptr 0 2 0 0), (6, .ptr 1 4 0 0), (7, .ptr 2 4 0 0), (24, vL Api_MonoA.enc p0.terms), (25, vI (p0.terms.length : Int)), (26, vI i7_0), (53, vI (x14.exps.length : Int)), (54, vI i26_0)]) (fun i26_0 => [vE p1.enc, vE x14.enc, vE x16.enc]) [0, 1, 2] (fun oJ29 hJ29 again i26_0 h => ?_) fun ⟨⟩ h => ?_
    ·refine AW.ro ?_
     refine AW.ks [0, 1, 2] [3, 6, 7, 24, 25, 26, 53, 54, 55] ?_
     refine AW.one ?_
     refine AW.tt h (fun hb30 h => ?_) fun hb30 h => ?_
     ·refine AW.sk ?_
      refine AW.ks [0, 1, 2] [3, 6, 7, 24, 25, 26, 53, 54] ?_
      refine AW.one ?_
      refine AW.block ?_
      refine AW.ro ?_
      refine AW.kr [0, 1, 2] [3, 6, 7, 8, 24, 25, 26, 53, 54] ?_
      refine bx h fun x31 h0 h1 h => ?_
      refine bx h fun x33 h0 h1 h => ?_
      refine AW.ks [0, 1, 2] [3, 6, 7, 24, 25, 26, 53, 54, 67] ?_
      refine AW.tk h (fun hb35 h => ?_) fun hb35 h => ?_
      ·refine AW.ro ?_
       refine AW.ret ?_
       have h := up h hJ29
       have h := up h hJ13
       have h := up h hJ10
       cases h; refine nz ?_; exact .same _
      refine AW.ks [0, 1, 2] [3, 6, 7, 24, 25, 26, 53, 54] ?_
      refine AW.rp ?_
      exact na [0, 1, 2] h
     refine AW.ex ?_
     exact jo [0] h
    exact jo [0] h
   refine AW.rp ?_
   exact na [0] h
  refine AW.ex ?_
  exact jo [] h
 refine AW.kr [] [] ?_
 refine AW.ret ?_
 cases h; refine nz ?_; exact .same _
/-! ### isochrone/isochroneref20.sameRats -/
def r20_sameRats (K : Nat) (p0 : List RatA) (p1 : List RatA) : Option Bool := if ((p0.length : Int) != (p1.length : Int)) then
  some false
 else
  ((iter (S := Int) (R := Out Unit _) K (fun again i2_0 =>
   if (decide (i2_0 < (p0.length : Int))) then
    (idx p0 i2_0).bind fun x7 =>
    (idx p1 i2_0).bind fun x9 =>
    (r02_Same K x7 x9).bind fun r11 =>
    if (!r11) then
     outM (
      some false)
    else
     again (IntKind.wrap .i64 (i2_0 + (1 : Int)))
   else
    some (.go ())) (0 : Int)) : Option (Out Unit _)).bind (Out.fin fun _ =>
  some true)
set_option maxHeartbeats 4000000 in
theorem r20_sameRats_ok {K : Nat} {p0 : List RatA} {p1 : List RatA} {r : Bool} (h : r20_sameRats K p0 p1 = some r) : Cn Tryd.prog 65 [.d (slD RatA.enc p0), .d (slD RatA.enc p1)] (.d (.val (.bool r))) := by
 refine Cn.oz Tryd.func65 Tryd.call65 Tryd.ntmps65 Tryd.results65 fun hfit => ?_
 unfold r20_sameRats at h
 refine AW.kr [] [0, 1] ?_
 refine AW.ks [] [0, 1] ?_
 refine AW.one ?_
 refine AW.ro ?_
 refine AW.ks [] [0, 1, 10] ?_
 refine AW.tk h (fun hb1 h => ?_) fun hb1 h => ?_
 ·refine AW.ro ?_
  refine AW.ret ?_
  cases h; refine nz ?_; exact .same _
 refine AW.ks [] [0, 1] ?_
 refine AW.one ?_
 refine AW.ro ?_
 refine AW.ks [] [0, 1, 5] ?_
 refine AW.lp h (fun _ => []) (fun _ => []) (fun i2_0 => [(0, vL RatA.enc p0), (1, vL RatA.enc p1), (5, vI i2_0)]) (fun i2_0 => []) [] (fun oJ5 hJ5 again i2_0 h => ?_) fun ⟨⟩ h => ?_
 ·refine AW.one ?_
  refine AW.ro ?_
  refine AW.ks [] [0, 1, 5, 14] ?_
  refine AW.tt h (fun hb6 h => ?_) fun hb6 h => ?_
  ·refine AW.sk ?_
   refine AW.ks [] [0, 1, 5] ?_
   refine AW.one ?_
   refine AW.block ?_
   refine AW.ro ?_
   refine bx h fun x7 h0 h1 h => ?_
   refine bx h fun x9 h0 h1 h => ?_
   refine pm h r02_Same_ok fun r11 hx12 h => ?_
   refine AW.ks [] [0, 1, 5, 26] ?_
   refine AW.tk h (fun hb13 h => ?_) fun hb13 h => ?_
   ·refine AW.ro ?_
    refine AW.ret ?_
    have h := up h hJ5
    cases h; refine nz ?_; exact .same _
   refine AW.ks [] [0, 1, 5] ?_
   refine AW.rp ?_
   exact na [] h
  refine AW.ex ?_
  exact jo [] h
 refine AW.kr [] [] ?_
 refine AW.ret ?_
 cases h; refine nz ?_; exact .same _
/-! ### isochrone/isochroneref20.SameCert -/
def r20_SameCert_body (K : Nat) (self54 : (Api_CertA × Api_CertA) → Option Bool) (p0 : Api_CertA) (p1 : Api_CertA) : Option Bool := ((
  ((
   if (p0.kind != p1.kind) then
    some true
   else
    (r20_sameRats K p0.nums p1.nums).bind fun r6 =>
    if (!r6) then
     some true
    else
     if ((p0.polys.length : Int) != (p1.polys.length : Int)) then
      some true
     else
      if ((p0.squares.length : Int) != (p1.squares.length : Int)) then
       some true
      else
       some ((p0.kids.length : Int) != (p1.kids.length : Int))) : Option Bool).bind (fun v3_0 =>
  if v3_0 then
   outM (
    some false)
  else
   some (.go ()))) : Option (Out Unit _)).bind (Out.fin fun _ =>
 ((iter (S := Int) (R := Out Unit _) K (fun again i12_0 =>
  if (decide (i12_0 < (p0.polys.length : Int))) then
   (idx p0.polys i12_0).bind fun x17 =>
   (idx p1.polys i12_0).bind fun x19 =>
   (r03_Same K x17 x19).bind fun r21 =>
   if (!r21) then
    outM (
     some false)
   else
    again (IntKind.wrap .i64 (i12_0 + (1 : Int)))
  else
   some (.go ())) (0 : Int)) : Option (Out Unit _)).bind (Out.fin fun _ =>
 ((iter (S := Int) (R := Out Unit _) K (fun again i24_0 =>
  if (decide (i24_0 < (p0.squares.length : Int))) then
   ((
    ((
     (idx p0.squares i24_0).bind fun x33 =>
     (idx p1.squares i24_0).bind fun x35 =>
     (r02_Same K x33.weight x35.weight).bind fun r37 =>
     if (!r37) then
      some true
     else
      (r03_Same K x33.poly x35.poly).bind fun r40 =>
      some (!r40)) : Option Bool).bind (fun v31_0 =>
    if v31_0 then
     outM (
      outM (
       some false))
    else
     some (.go ()))) : Option (Out Unit _)).bind (Out.fin fun _ =>
   again (IntKind.wrap .i64 (i24_0 + (1 : Int))))
  else
   some (.go ())) (0 : Int)) : Option (Out Unit _)).bind (Out.fin fun _ =>
 ((iter (S := Int) (R := Out Unit _) K (fun again i43_0 =>
  if (decide (i43_0 < (p0.kids.length : Int))) then
   (idx p0.kids i43_0).bind fun x48 =>
   (idx p1.kids i43_0).bind fun x50 =>
   (self54 (x48, x50)).bind fun r52 =>
   if (!r52) then
    outM (
     some false)
   else
    again (IntKind.wrap .i64 (i43_0 + (1 : Int)))
  else
   some (.go ())) (0 : Int)) : Option (Out Unit _)).bind (Out.fin fun _ =>
 some true))))
set_option maxHeartbeats 4000000 in
theorem r20_SameCert_step (K : Nat) (self54 : (Api_CertA × Api_CertA) → Option Bool) (hself54 : ∀ (q : Api_CertA × Api_CertA) (r : Bool), self54 q = some r → Cn Tryd.prog 54 [aggV q.1.enc, aggV q.2.enc] (.d (.val (.bool r)))) (p0 : Api_CertA) (p1 : Api_CertA) (r : Bool) (h : r20_SameCert_body K self54 p0 p1 = some r) : Cn Tryd.prog 54 [aggV p0.enc, aggV p1.enc] (.d (.val (.bool r))) := by
 refine Cn.oz Tryd.func54 Tryd.call54 Tryd.ntmps54 Tryd.results54 fun hfit => ?_
 unfold r20_SameCert_body at h
 refine AW.kr [] [0, 1] ?_
 refine AW.ks [0, 1] [2, 3] ?_
 refine AW.jo h (fun _ => [(2, .ptr 0 5 0 0), (3, .ptr 1 5 0 0)]) (fun _ => [vE p0.enc, vE p1.enc]) (fun oJ2 h hJ2 => ?_) fun ⟨⟩ h => ?_
 ·refine AW.jn h (fun v3_0 => [(2, .ptr 0 5 0 0), (3, .ptr 1 5 0 0), (47, vB v3_0)]) (fun v3_0 => [vE p0.enc, vE p1.enc]) (fun oJ4 h => ?_) fun v3_0 h => ?_
  ·refine AW.rp ?_
   refine sK h (fun hb5 h => ?_) fun hb5 h => ?_
   ·exact ja [0, 1] h
   refine cm h r20_sameRats_ok fun r6 hx7 h => ?_
   refine sK h (fun hb8 h => ?_) fun hb8 h => ?_
   ·exact ja [0, 1] h
   refine sK h (fun hb9 h => ?_) fun hb9 h => ?_
   ·exact ja [0, 1] h
   refine sK h (fun hb10 h => ?_) fun hb10 h => ?_
   ·exact ja [0, 1] h
   exact ja [0, 1] h
  refine AW.tk h (fun hb11 h => ?_) fun hb11 h => ?_
  ·refine AW.ro ?_
   refine AW.ret ?_
   have h := up h hJ2
   cases h; refine nz ?_; exact .same _
  exact jo [0, 1] h
 refine AW.one ?_
 refine AW.ro ?_
 refine AW.ks [0, 1] [2, 3, 5] ?_
 refine AW.lp h (fun _ => [(2, .ptr 0 5 0 0), (3, .ptr 1 5 0 0)]) (fun _ => [vE p0.enc, vE p1.enc]) (fun i12_0 => [(2, .ptr 0 5 0 0), (3, .ptr 1 5 0 0), (5, vI i12_0)]) (fun i12_0 => [vE p0.enc, vE p1.enc]) [0, 1] (fun oJ15 hJ15 again i12_0 h => ?_) fun ⟨⟩ h => ?_
 ·refine AW.one ?_
  refine AW.ro ?_
  refine AW.ks [0, 1] [2, 3, 5, 52] ?_
  refine AW.tt h (fun hb16 h => ?_) fun hb16 h => ?_
  ·refine AW.sk ?_
   refine AW.ks [0, 1] [2, 3, 5] ?_
   refine AW.one ?_
   refine AW.block ?_
   refine AW.ro ?_
   refine bx h fun x17 h0 h1 h => ?_
   refine bx h fun x19 h0 h1 h => ?_
   refine pm h r03_Same_ok fun r21 hx22 h => ?_
   refine AW.ks [0, 1] [2, 3, 5, 66] ?_
   refine AW.tk h (fun hb23 h => ?_) fun hb23 h => ?_
   ·refine AW.ro ?_
    refine AW.ret ?_
    have h := up h hJ15
    cases h; refine nz ?_; exact .same _
   refine AW.ks [0, 1] [2, 3, 5] ?_
   refine AW.rp ?_
   exact na [0, 1] h
  refine AW.ex ?_
  exact jo [0, 1] h
 refine AW.ks [0, 1] [2, 3] ?_
 refine AW.one ?_
 refine AW.ro ?_
 refine AW.ks [0, 1] [2, 3, 6] ?_
 refine AW.lp h (fun _ => [(2, .ptr 0 5 0 0), (3, .ptr 1 5 0 0)]) (fun _ => [vE p0.enc, vE p1.enc]) (fun i24_0 => [(2, .ptr 0 5 0 0), (3, .ptr 1 5 0 0), (6, vI i24_0)]) (fun i24_0 => [vE p0.enc, vE p1.enc]) [0, 1] (fun oJ27 hJ27 again i24_0 h => ?_) fun ⟨⟩ h => ?_
 ·refine AW.one ?_
  refine AW.ro ?_
  refine AW.ks [0, 1] [2, 3, 6, 71] ?_
  refine AW.tt h (fun hb28 h => ?_) fun hb28 h => ?_
  ·refine AW.sk ?_
   refine AW.ks [0, 1] [2, 3, 6] ?_
   refine AW.jo h (fun _ => [(2, .ptr 0 5 0 0), (3, .ptr 1 5 0 0), (6, vI i24_0)]) (fun _ => [vE p0.enc, vE p1.enc]) (fun oJ30 h hJ30 => ?_) fun ⟨⟩ h => ?_
   ·refine AW.block ?_
    refine AW.jn h (fun v31_0 => [(2, .ptr 0 5 0 0), (3, .ptr 1 5 0 0), (6, vI i24_0), (103, vB v31_0)]) (fun v31_0 => [vE p0.enc, vE p1.enc]) (fun oJ32 h => ?_) fun v31_0 h => ?_
    ·refine AW.rp ?_
     refine bx h fun x33 h0 h1 h => ?_
     refine bx h fun x35 h0 h1 h => ?_
     refine pm h r02_Same_ok fun r37 hx38 h => ?_
     refine sK h (fun hb39 h => ?_) fun hb39 h => ?_
     ·exact ja [0, 1] h
     refine pm h r03_Same_ok fun r40 hx41 h => ?_
     exact ja [0, 1] h
    refine AW.tk h (fun hb42 h => ?_) fun hb42 h => ?_
    ·refine AW.ro ?_
     refine AW.ret ?_
     have h := up h hJ30
     have h := up h hJ27
     cases h; refine nz ?_; exact .same _
    exact jo [0, 1] h
   refine AW.rp ?_
   exact na [0, 1] h
  refine AW.ex ?_
  exact jo [0, 1] h
 refine AW.ks [0, 1] [2, 3] ?_
 refine AW.one ?_
 refine AW.ro ?_
 refine AW.ks [0, 1] [2, 3, 7] ?_
 refine AW.lp h (fun _ => []) (fun _ => []) (fun i43_0 => [(2, .ptr 0 5 0 0), (3, .ptr 1 5 0 0), (7, vI i43_0)]) (fun i43_0 => [vE p0.enc, vE p1.enc]) [0, 1] (fun oJ46 hJ46 again i43_0 h => ?_) fun ⟨⟩ h => ?_
 ·refine AW.one ?_
  refine AW.ro ?_
  refine AW.ks [0, 1] [2, 3, 7, 108] ?_
  refine AW.tt h (fun hb47 h => ?_) fun hb47 h => ?_
  ·refine AW.sk ?_
   refine AW.ks [0, 1] [2, 3, 7] ?_
   refine AW.one ?_
   refine AW.block ?_
   refine AW.ro ?_
   refine bx h fun x48 h0 h1 h => ?_
   refine bx h fun x50 h0 h1 h => ?_
   refine pm h (hself54 _ _) fun r52 hx53 h => ?_
   refine AW.ks [0, 1] [2, 3, 7, 122] ?_
   refine AW.tk h (fun hb54 h => ?_) fun hb54 h => ?_
   ·refine AW.ro ?_
    refine AW.ret ?_
    have h := up h hJ46
    cases h; refine nz ?_; exact .same _
   refine AW.ks [0, 1] [2, 3, 7] ?_
   refine AW.rp ?_
   exact na [0, 1] h
  refine AW.ex ?_
  exact jo [] h
 refine AW.kr [] [] ?_
 refine AW.ret ?_
 cases h; refine nz ?_; exact .same _
def r20_SameCert (K : Nat) (p0 : Api_CertA) (p1 : Api_CertA) : Option Bool := iter K (fun self q => r20_SameCert_body K self q.1 q.2) (p0, p1)
theorem key_r20_SameCert {K : Nat} (k : Nat) : (∀ (q : Api_CertA × Api_CertA) (r : Bool), iter k (fun self q => r20_SameCert_body K self q.1 q.2) q = some r → Cn Tryd.prog 54 [aggV q.1.enc, aggV q.2.enc] (.d (.val (.bool r)))) := by
 induction k with
 | zero => exact fun q r h => by cases h
 | succ k ih => exact fun q r h => r20_SameCert_step K _ ih q.1 q.2 r h
theorem r20_SameCert_ok {K : Nat} {p0 : Api_CertA} {p1 : Api_CertA} {r : Bool} (h : r20_SameCert K p0 p1 = some r) : Cn Tryd.prog 54 [aggV p0.enc, aggV p1.enc] (.d (.val (.bool r))) := (key_r20_SameCert K) (p0, p1) r h
/-! ### isochrone/isochroneref20.SameStrings -/
def r20_SameStrings (K : Nat) (p0 : List ByteArray) (p1 : List ByteArray) : Option Bool := if ((p0.length : Int) != (p1.length : Int)) then
  some false
 else
  ((iter (S := Int) (R := Out Unit _) K (fun again i2_0 =>
   if (decide (i2_0 < (p0.length : Int))) then
    (idx p0 i2_0).bind fun x7 =>
    (idx p1 i2_0).bind fun x9 =>
    if (!(x7.toList == x9.toList)) then
     outM (
      some false)
    else
     again (IntKind.wrap .i64 (i2_0 + (1 : Int)))
   else
    some (.go ())) (0 : Int)) : Option (Out Unit _)).bind (Out.fin fun _ =>
  some true)
set_option maxHeartbeats 4000000 in
theorem r20_SameStrings_ok {K : Nat} {p0 : List ByteArray} {p1 : List ByteArray} {r : Bool} (h : r20_SameStrings K p0 p1 = some r) : Cn Tryd.prog 18 [.d (slD strV p0), .d (slD strV p1)] (.d (.val (.bool r))) := by
 refine Cn.oz Tryd.func18 Tryd.call18 Tryd.ntmps18 Tryd.results18 fun hfit => ?_
 unfold r20_SameStrings at h
 refine AW.kr [] [0, 1] ?_
 refine AW.ks [] [0, 1] ?_
 refine AW.one ?_
 refine AW.ro ?_
 refine AW.ks [] [0, 1, 10] ?_
 refine AW.tk h (fun hb1 h => ?_) fun hb1 h => ?_
 ·refine AW.ro ?_
  refine AW.ret ?_
  cases h; refine nz ?_; exact .same _
 refine AW.ks [] [0, 1] ?_
 refine AW.one ?_
 refine AW.ro ?_
 refine AW.ks [] [0, 1, 5] ?_
 refine AW.lp h (fun _ => []) (fun _ => []) (fun i2_0 => [(0, vL strV p0), (1, vL strV p1), (5, vI i2_0)]) (fun i2_0 => []) [] (fun oJ5 hJ5 again i2_0 h => ?_) fun ⟨⟩ h => ?_
 ·refine AW.one ?_
  refine AW.ro ?_
  refine AW.ks [] [0, 1, 5, 14] ?_
  refine AW.tt h (fun hb6 h => ?_) fun hb6 h => ?_
  ·refine AW.sk ?_
   refine AW.ks [] [0, 1, 5] ?_
   refine AW.one ?_
   refine AW.block ?_
   refine AW.ro ?_
   refine bx h fun x7 h0 h1 h => ?_
   refine bx h fun x9 h0 h1 h => ?_
   refine AW.ks [] [0, 1, 5, 25] ?_
   refine AW.tk h (fun hb11 h => ?_) fun hb11 h => ?_
   ·refine AW.ro ?_
    refine AW.ret ?_
    have h := up h hJ5
    cases h; refine nz ?_; exact .same _
   refine AW.ks [] [0, 1, 5] ?_
   refine AW.rp ?_
   exact na [] h
  refine AW.ex ?_
  exact jo [] h
 refine AW.kr [] [] ?_
 refine AW.ret ?_
 cases h; refine nz ?_; exact .same _
/-! ### isochrone/isochroneref20.SameNode -/
def r20_SameNode (K : Nat) (p0 : Api_ProofA) (p1 : Api_ProofA) : Option Bool := if (p0.rule.toList == p1.rule.toList) then
  if (p0.name.toList == p1.name.toList) then
   (r08_SameNodes K p0.forms p1.forms).bind fun r3 =>
   if r3 then
    (r17_SamePairs K p0.subst p1.subst).bind fun r6 =>
    if r6 then
     (r08_SamePath K p0.path p1.path).bind fun r9 =>
     if r9 then
      (r20_SameStrings K p0.args p1.args).bind fun r12 =>
      if r12 then
       (r20_SameCert K p0.cert p1.cert).bind fun r15 =>
       some r15
      else
       some false
     else
      some false
    else
     some false
   else
    some false
  else
   some false
 else
  some false
set_option maxHeartbeats 4000000 in
theorem r20_SameNode_ok {K : Nat} {p0 : Api_ProofA} {p1 : Api_ProofA} {r : Bool} (h : r20_SameNode K p0 p1 = some r) : Cn Tryd.prog 35 [aggV p0.enc, aggV p1.enc] (.d (.val (.bool r))) := by
 refine Cn.oz Tryd.func35 Tryd.call35 Tryd.ntmps35 Tryd.results35 fun hfit => ?_
 unfold r20_SameNode at h
 refine AW.kr [] [0, 1] ?_
 refine AW.kr [0, 1] [2, 3] ?_
 refine sK h (fun hb1 h => ?_) fun hb1 h => ?_
 ·refine sK h (fun hb2 h => ?_) fun hb2 h => ?_
  ·refine cm h r08_SameNodes_ok fun r3 hx4 h => ?_
   refine sK h (fun hb5 h => ?_) fun hb5 h => ?_
   ·refine cm h r17_SamePairs_ok fun r6 hx7 h => ?_
    refine sK h (fun hb8 h => ?_) fun hb8 h => ?_
    ·refine cm h r08_SamePath_ok fun r9 hx10 h => ?_
     refine sK h (fun hb11 h => ?_) fun hb11 h => ?_
     ·refine cm h r20_SameStrings_ok fun r12 hx13 h => ?_
      refine sK h (fun hb14 h => ?_) fun hb14 h => ?_
      ·refine cm h r20_SameCert_ok fun r15 hx16 h => ?_
       refine AW.ret ?_
       cases h; refine nz ?_; exact .same _
      refine AW.ret ?_
      cases h; refine nz ?_; exact .same _
     refine AW.ret ?_
     cases h; refine nz ?_; exact .same _
    refine AW.ret ?_
    cases h; refine nz ?_; exact .same _
   refine AW.ret ?_
   cases h; refine nz ?_; exact .same _
  refine AW.ret ?_
  cases h; refine nz ?_; exact .same _
 refine AW.ret ?_
 cases h; refine nz ?_; exact .same _
/-! ### isochrone/isochroneref20.Same -/
def r20_Same_body (K : Nat) (self14 : (Api_ProofA × Api_ProofA) → Option Bool) (p0 : Api_ProofA) (p1 : Api_ProofA) : Option Bool := ((
  ((
   (r20_SameNode K p0 p1).bind fun r5 =>
   if (!r5) then
    some true
   else
    some ((p0.kids.length : Int) != (p1.kids.length : Int))) : Option Bool).bind (fun v3_0 =>
  if v3_0 then
   outM (
    some false)
  else
   some (.go ()))) : Option (Out Unit _)).bind (Out.fin fun _ =>
 ((iter (S := Int) (R := Out Unit _) K (fun again i9_0 =>
  if (decide (i9_0 < (p0.kids.length : Int))) then
   (idx p0.kids i9_0).bind fun x14 =>
   (idx p1.kids i9_0).bind fun x16 =>
   (self14 (x14, x16)).bind fun r18 =>
   if (!r18) then
    outM (
     some false)
   else
    again (IntKind.wrap .i64 (i9_0 + (1 : Int)))
  else
   some (.go ())) (0 : Int)) : Option (Out Unit _)).bind (Out.fin fun _ =>
 some true))
set_option maxHeartbeats 4000000 in
theorem r20_Same_step (K : Nat) (self14 : (Api_ProofA × Api_ProofA) → Option Bool) (hself14 : ∀ (q : Api_ProofA × Api_ProofA) (r : Bool), self14 q = some r → Cn Tryd.prog 14 [aggV q.1.enc, aggV q.2.enc] (.d (.val (.bool r)))) (p0 : Api_ProofA) (p1 : Api_ProofA) (r : Bool) (h : r20_Same_body K self14 p0 p1 = some r) : Cn Tryd.prog 14 [aggV p0.enc, aggV p1.enc] (.d (.val (.bool r))) := by
 refine Cn.oz Tryd.func14 Tryd.call14 Tryd.ntmps14 Tryd.results14 fun hfit => ?_
 unfold r20_Same_body at h
 refine AW.kr [] [0, 1] ?_
 refine AW.ks [0, 1] [2, 3] ?_
 refine AW.jo h (fun _ => [(2, .ptr 0 12 0 0), (3, .ptr 1 12 0 0)]) (fun _ => [vE p0.enc, vE p1.enc]) (fun oJ2 h hJ2 => ?_) fun ⟨⟩ h => ?_
 ·refine AW.jn h (fun v3_0 => [(2, .ptr 0 12 0 0), (3, .ptr 1 12 0 0), (18, vB v3_0)]) (fun v3_0 => [vE p0.enc, vE p1.enc]) (fun oJ4 h => ?_) fun v3_0 h => ?_
  ·refine AW.rp ?_
   refine cm h r20_SameNode_ok fun r5 hx6 h => ?_
   refine sK h (fun hb7 h => ?_) fun hb7 h => ?_
   ·exact ja [0, 1] h
   exact ja [0, 1] h
  refine AW.tk h (fun hb8 h => ?_) fun hb8 h => ?_
  ·refine AW.ro ?_
   refine AW.ret ?_
   have h := up h hJ2
   cases h; refine nz ?_; exact .same _
  exact jo [0, 1] h
 refine AW.one ?_
 refine AW.ro ?_
 refine AW.ks [0, 1] [2, 3, 5] ?_
 refine AW.lp h (fun _ => []) (fun _ => []) (fun i9_0 => [(2, .ptr 0 12 0 0), (3, .ptr 1 12 0 0), (5, vI i9_0)]) (fun i9_0 => [vE p0.enc, vE p1.enc]) [0, 1] (fun oJ12 hJ12 again i9_0 h => ?_) fun ⟨⟩ h => ?_
 ·refine AW.one ?_
  refine AW.ro ?_
  refine AW.ks [0, 1] [2, 3, 5, 23] ?_
  refine AW.tt h (fun hb13 h => ?_) fun hb13 h => ?_
  ·refine AW.sk ?_
   refine AW.ks [0, 1] [2, 3, 5] ?_
   refine AW.one ?_
   refine AW.block ?_
   refine AW.ro ?_
   refine bx h fun x14 h0 h1 h => ?_
   refine bx h fun x16 h0 h1 h => ?_
   refine pm h (hself14 _ _) fun r18 hx19 h => ?_
   refine AW.ks [0, 1] [2, 3, 5, 37] ?_
   refine AW.tk h (fun hb20 h => ?_) fun hb20 h => ?_
   ·refine AW.ro ?_
    refine AW.ret ?_
    have h := up h hJ12
    cases h; refine nz ?_; exact .same _
   refine AW.ks [0, 1] [2, 3, 5] ?_
   refine AW.rp ?_
   exact na [0, 1] h
  refine AW.ex ?_
  exact jo [] h
 refine AW.kr [] [] ?_
 refine AW.ret ?_
 cases h; refine nz ?_; exact .same _
def r20_Same (K : Nat) (p0 : Api_ProofA) (p1 : Api_ProofA) : Option Bool := iter K (fun self q => r20_Same_body K self q.1 q.2) (p0, p1)
theorem key_r20_Same {K : Nat} (k : Nat) : (∀ (q : Api_ProofA × Api_ProofA) (r : Bool), iter k (fun self q => r20_Same_body K self q.1 q.2) q = some r → Cn Tryd.prog 14 [aggV q.1.enc, aggV q.2.enc] (.d (.val (.bool r)))) := by
 induction k with
 | zero => exact fun q r h => by cases h
 | succ k ih => exact fun q r h => r20_Same_step K _ ih q.1 q.2 r h
theorem r20_Same_ok {K : Nat} {p0 : Api_ProofA} {p1 : Api_ProofA} {r : Bool} (h : r20_Same K p0 p1 = some r) : Cn Tryd.prog 14 [aggV p0.enc, aggV p1.enc] (.d (.val (.bool r))) := (key_r20_Same K) (p0, p1) r h
/-! ### isochrone/replay.ints -/
def replay_ints (K : Nat) (p0 : List Int) (p1 : List Int) : Option Bool := if ((p0.length : Int) != (p1.length : Int)) then
  some false
 else
  ((iter (S := Int) (R := Out Unit _) K (fun again i2_0 =>
   if (decide (i2_0 < (p0.length : Int))) then
    (idx p0 i2_0).bind fun x7 =>
    (idx p1 i2_0).bind fun x9 =>
    if (x7 != x9) then
     outM (
      some false)
    else
     again (IntKind.wrap .i64 (i2_0 + (1 : Int)))
   else
    some (.go ())) (0 : Int)) : Option (Out Unit _)).bind (Out.fin fun _ =>
  some true)
set_option maxHeartbeats 4000000 in
theorem replay_ints_ok {K : Nat} {p0 : List Int} {p1 : List Int} {r : Bool} (h : replay_ints K p0 p1 = some r) : Cn Tryd.prog 27 [.d (slD i64V p0), .d (slD i64V p1)] (.d (.val (.bool r))) := by
 refine Cn.oz Tryd.func27 Tryd.call27 Tryd.ntmps27 Tryd.results27 fun hfit => ?_
 unfold replay_ints at h
 refine AW.kr [] [0, 1] ?_
 refine AW.ks [] [0, 1] ?_
 refine AW.one ?_
 refine AW.ro ?_
 refine AW.ks [] [0, 1, 10] ?_
 refine AW.tk h (fun hb1 h => ?_) fun hb1 h => ?_
 ·refine AW.ro ?_
  refine AW.ret ?_
  cases h; refine nz ?_; exact .same _
 refine AW.ks [] [0, 1] ?_
 refine AW.one ?_
 refine AW.ro ?_
 refine AW.ks [] [0, 1, 12, 13] ?_
 refine AW.lp h (fun _ => []) (fun _ => []) (fun i2_0 => [(0, vL i64V p0), (1, vL i64V p1), (12, vI (p0.length : Int)), (13, vI i2_0)]) (fun i2_0 => []) [] (fun oJ5 hJ5 again i2_0 h => ?_) fun ⟨⟩ h => ?_
 ·refine AW.ro ?_
  refine AW.ks [] [0, 1, 12, 13, 14] ?_
  refine AW.one ?_
  refine AW.tt h (fun hb6 h => ?_) fun hb6 h => ?_
  ·refine AW.sk ?_
   refine AW.ks [] [0, 1, 12, 13] ?_
   refine AW.one ?_
   refine AW.block ?_
   refine AW.ro ?_
   refine AW.kr [] [0, 1, 5, 12, 13] ?_
   refine bx h fun x7 h0 h1 h => ?_
   refine bx h fun x9 h0 h1 h => ?_
   refine AW.ks [] [0, 1, 12, 13, 24] ?_
   refine AW.tk h (fun hb11 h => ?_) fun hb11 h => ?_
   ·refine AW.ro ?_
    refine AW.ret ?_
    have h := up h hJ5
    cases h; refine nz ?_; exact .same _
   refine AW.ks [] [0, 1, 12, 13] ?_
   refine AW.rp ?_
   exact na [] h
  refine AW.ex ?_
  exact jo [] h
 refine AW.kr [] [] ?_
 refine AW.ret ?_
 cases h; refine nz ?_; exact .same _
/-! ### isochrone/tree.less -/
def tree_less (K : Nat) (p0 : Bool) : Option Int := if p0 then
  some (-1 : Int)
 else
  some (1 : Int)
set_option maxHeartbeats 4000000 in
theorem tree_less_ok {K : Nat} {p0 : Bool} {r : Int} (h : tree_less K p0 = some r) : Cn Tryd.prog 90 [.d (.val (.bool p0))] (.d (.val (.int .i64 r))) := by
 refine Cn.oz Tryd.func90 Tryd.call90 Tryd.ntmps90 Tryd.results90 fun hfit => ?_
 unfold tree_less at h
 refine AW.kr [] [0] ?_
 refine AW.ks [] [0] ?_
 refine AW.one ?_
 refine AW.ro ?_
 refine AW.ks [] [3] ?_
 refine AW.tk h (fun hb1 h => ?_) fun hb1 h => ?_
 ·refine AW.ro ?_
  refine AW.ret ?_
  cases h; refine nz ?_; exact .same _
 refine AW.kr [] [] ?_
 refine AW.ret ?_
 cases h; refine nz ?_; exact .same _
/-! ### isochrone/tree.words -/
def tree_words (K : Nat) (p0 : List Int) (p1 : List Int) : Option Int := if ((p0.length : Int) != (p1.length : Int)) then
  (tree_less K (decide ((p0.length : Int) < (p1.length : Int)))).bind fun r2 =>
  some r2
 else
  ((iter (S := Int) (R := Out Unit _) K (fun again i4_0 =>
   if (decide ((0 : Int) ≤ i4_0)) then
    (idx p0 i4_0).bind fun x9 =>
    (idx p1 i4_0).bind fun x11 =>
    if (x9 != x11) then
     (tree_less K (decide (x9 < x11))).bind fun r14 =>
     outM (
      some r14)
    else
     again (IntKind.wrap .i64 (i4_0 - (1 : Int)))
   else
    some (.go ())) (IntKind.wrap .i64 ((p0.length : Int) - (1 : Int)))) : Option (Out Unit _)).bind (Out.fin fun _ =>
  some (0 : Int))
set_option maxHeartbeats 4000000 in
theorem tree_words_ok {K : Nat} {p0 : List Int} {p1 : List Int} {r : Int} (h : tree_words K p0 p1 = some r) : Cn Tryd.prog 91 [.d (slD u32V p0), .d (slD u32V p1)] (.d (.val (.int .i64 r))) := by
 refine Cn.oz Tryd.func91 Tryd.call91 Tryd.ntmps91 Tryd.results91 fun hfit => ?_
 unfold tree_words at h
 refine AW.kr [] [0, 1] ?_
 refine AW.ks [] [0, 1] ?_
 refine AW.one ?_
 refine AW.ro ?_
 refine AW.ks [] [0, 1, 10] ?_
 refine AW.tk h (fun hb1 h => ?_) fun hb1 h => ?_
 ·refine AW.ro ?_
  refine cm h tree_less_ok fun r2 hx3 h => ?_
  refine AW.ret ?_
  cases h; refine nz ?_; exact .same _
 refine AW.ks [] [0, 1] ?_
 refine AW.one ?_
 refine AW.ro ?_
 refine AW.ks [] [0, 1, 5] ?_
 refine AW.lp h (fun _ => []) (fun _ => []) (fun i4_0 => [(0, vL u32V p0), (1, vL u32V p1), (5, vI i4_0)]) (fun i4_0 => []) [] (fun oJ7 hJ7 again i4_0 h => ?_) fun ⟨⟩ h => ?_
 ·refine AW.one ?_
  refine AW.ro ?_
  refine AW.ks [] [0, 1, 5, 21] ?_
  refine AW.tt h (fun hb8 h => ?_) fun hb8 h => ?_
  ·refine AW.sk ?_
   refine AW.ks [] [0, 1, 5] ?_
   refine AW.one ?_
   refine AW.block ?_
   refine AW.ro ?_
   refine bx h fun x9 h0 h1 h => ?_
   refine bx h fun x11 h0 h1 h => ?_
   refine AW.ks [] [0, 1, 5, 32] ?_
   refine AW.tk h (fun hb13 h => ?_) fun hb13 h => ?_
   ·refine AW.ro ?_
    refine pm h tree_less_ok fun r14 hx15 h => ?_
    refine AW.ret ?_
    have h := up h hJ7
    cases h; refine nz ?_; exact .same _
   refine AW.ks [] [0, 1, 5] ?_
   refine AW.rp ?_
   exact na [] h
  refine AW.ex ?_
  exact jo [] h
 refine AW.kr [] [] ?_
 refine AW.ret ?_
 cases h; refine nz ?_; exact .same _
/-! ### isochrone/tree.Compare -/
def tree_Compare_body (K : Nat) (self72 : (NodeA × NodeA) → Option Int) (p0 : NodeA) (p1 : NodeA) : Option Int := if (p0.op != p1.op) then
  (tree_less K (decide (p0.op < p1.op))).bind fun r2 =>
  some r2
 else
  if (!(p0.name.toList == p1.name.toList)) then
   (tree_less K (Op.bytesLess p0.name.toList p1.name.toList)).bind fun r5 =>
   some r5
  else
   if (!(p0.num.neg == p1.num.neg)) then
    (tree_less K p1.num.neg).bind fun r8 =>
    some r8
   else
    (tree_words K p0.num.num p1.num.num).bind fun r10 =>
    if (r10 != (0 : Int)) then
     some r10
    else
     (tree_words K p0.num.den p1.num.den).bind fun r13 =>
     if (r13 != (0 : Int)) then
      some r13
     else
      if ((p0.kids.length : Int) != (p1.kids.length : Int)) then
       (tree_less K (decide ((p0.kids.length : Int) < (p1.kids.length : Int)))).bind fun r17 =>
       some r17
      else
       ((iter (S := Int) (R := Out Unit _) K (fun again i19_0 =>
        if (decide (i19_0 < (p0.kids.length : Int))) then
         (idx p0.kids i19_0).bind fun x24 =>
         (idx p1.kids i19_0).bind fun x26 =>
         (self72 (x24, x26)).bind fun r28 =>
         if (r28 != (0 : Int)) then
          outM (
           some r28)
         else
          again (IntKind.wrap .i64 (i19_0 + (1 : Int)))
        else
         some (.go ())) (0 : Int)) : Option (Out Unit _)).bind (Out.fin fun _ =>
       some (0 : Int))
set_option maxHeartbeats 4000000 in
theorem tree_Compare_step (K : Nat) (self72 : (NodeA × NodeA) → Option Int) (hself72 : ∀ (q : NodeA × NodeA) (r : Int), self72 q = some r → Cn Tryd.prog 72 [aggV q.1.enc, aggV q.2.enc] (.d (.val (.int .i64 r)))) (p0 : NodeA) (p1 : NodeA) (r : Int) (h : tree_Compare_body K self72 p0 p1 = some r) : Cn Tryd.prog 72 [aggV p0.enc, aggV p1.enc] (.d (.val (.int .i64 r))) := by
 refine Cn.oz Tryd.func72 Tryd.call72 Tryd.ntmps72 Tryd.results72 fun hfit => ?_
 unfold tree_Compare_body at h
 refine AW.kr [] [0, 1] ?_
 refine AW.ks [0, 1] [2, 3] ?_
 refine AW.one ?_
 refine AW.block ?_
 refine AW.ro ?_
 refine AW.ks [0, 1] [2, 3, 9] ?_
 refine AW.tt h (fun hb1 h => ?_) fun hb1 h => ?_
 ·refine AW.ro ?_
  refine cm h tree_less_ok fun r2 hx3 h => ?_
  refine AW.ret ?_
  cases h; refine nz ?_; exact .same _
 refine AW.ro ?_
 refine AW.ks [0, 1] [2, 3, 21] ?_
 refine AW.tt h (fun hb4 h => ?_) fun hb4 h => ?_
 ·refine AW.ro ?_
  refine cm h tree_less_ok fun r5 hx6 h => ?_
  refine AW.ret ?_
  cases h; refine nz ?_; exact .same _
 refine AW.ro ?_
 refine AW.ks [0, 1] [2, 3, 33] ?_
 refine AW.tk h (fun hb7 h => ?_) fun hb7 h => ?_
 ·refine AW.ro ?_
  refine cm h tree_less_ok fun r8 hx9 h => ?_
  refine AW.ret ?_
  cases h; refine nz ?_; exact .same _
 refine AW.ks [0, 1] [2, 3] ?_
 refine AW.one ?_
 refine AW.ro ?_
 refine cm h tree_words_ok fun r10 hx11 h => ?_
 refine AW.kr [0, 1] [2, 3, 5] ?_
 refine AW.ks [0, 1] [2, 3, 5, 53] ?_
 refine AW.tk h (fun hb12 h => ?_) fun hb12 h => ?_
 ·refine AW.ro ?_
  refine AW.ret ?_
  cases h; refine nz ?_; exact .same _
 refine AW.ks [0, 1] [2, 3] ?_
 refine AW.one ?_
 refine AW.ro ?_
 refine cm h tree_words_ok fun r13 hx14 h => ?_
 refine AW.kr [0, 1] [2, 3, 6] ?_
 refine AW.ks [0, 1] [2, 3, 6, 63] ?_
 refine AW.tk h (fun hb15 h => ?_) fun hb15 h => ?_
 ·refine AW.ro ?_
  refine AW.ret ?_
  cases h; refine nz ?_; exact .same _
 refine AW.ks [0, 1] [2, 3] ?_
 refine AW.one ?_
 refine AW.ro ?_
 refine AW.ks [0, 1] [2, 3, 71] ?_
 refine AW.tk h (fun hb16 h => ?_) fun hb16 h => ?_
 ·refine AW.ro ?_
  refine cm h tree_less_ok fun r17 hx18 h => ?_
  refine AW.ret ?_
  cases h; refine nz ?_; exact .same _
 refine AW.ks [0, 1] [2, 3] ?_
 refine AW.one ?_
 refine AW.ro ?_
 refine AW.ks [0, 1] [2, 3, 82, 83] ?_
 refine AW.lp h (fun _ => []) (fun _ => []) (fun i19_0 => [(2, .ptr 0 6 0 0), (3, .ptr 1 6 0 0), (82, vI (p0.kids.length : Int)), (83, vI i19_0)]) (fun i19_0 => [vE p0.enc, vE p1.enc]) [0, 1] (fun oJ22 hJ22 again i19_0 h => ?_) fun ⟨⟩ h => ?_
 ·refine AW.ro ?_
  refine AW.ks [0, 1] [2, 3, 82, 83, 84] ?_
  refine AW.one ?_
  refine AW.tt h (fun hb23 h => ?_) fun hb23 h => ?_
  ·refine AW.sk ?_
   refine AW.ks [0, 1] [2, 3, 82, 83] ?_
   refine AW.one ?_
   refine AW.block ?_
   refine AW.ro ?_
   refine AW.kr [0, 1] [2, 3, 7, 82, 83] ?_
   refine bx h fun x24 h0 h1 h => ?_
   refine bx h fun x26 h0 h1 h => ?_
   refine pm h (hself72 _ _) fun r28 hx29 h => ?_
   refine AW.kr [0, 1] [2, 3, 8, 82, 83] ?_
   refine AW.ks [0, 1] [2, 3, 8, 82, 83, 98] ?_
   refine AW.tk h (fun hb30 h => ?_) fun hb30 h => ?_
   ·refine AW.ro ?_
    refine AW.ret ?_
    have h := up h hJ22
    cases h; refine nz ?_; exact .same _
   refine AW.ks [0, 1] [2, 3, 82, 83] ?_
   refine AW.rp ?_
   exact na [0, 1] h
  refine AW.ex ?_
  exact jo [] h
 refine AW.kr [] [] ?_
 refine AW.ret ?_
 cases h; refine nz ?_; exact .same _
def tree_Compare (K : Nat) (p0 : NodeA) (p1 : NodeA) : Option Int := iter K (fun self q => tree_Compare_body K self q.1 q.2) (p0, p1)
theorem key_tree_Compare {K : Nat} (k : Nat) : (∀ (q : NodeA × NodeA) (r : Int), iter k (fun self q => tree_Compare_body K self q.1 q.2) q = some r → Cn Tryd.prog 72 [aggV q.1.enc, aggV q.2.enc] (.d (.val (.int .i64 r)))) := by
 induction k with
 | zero => exact fun q r h => by cases h
 | succ k ih => exact fun q r h => tree_Compare_step K _ ih q.1 q.2 r h
theorem tree_Compare_ok {K : Nat} {p0 : NodeA} {p1 : NodeA} {r : Int} (h : tree_Compare K p0 p1 = some r) : Cn Tryd.prog 72 [aggV p0.enc, aggV p1.enc] (.d (.val (.int .i64 r))) := (key_tree_Compare K) (p0, p1) r h
/-! ### isochrone/tree.Equal -/
def tree_Equal (K : Nat) (p0 : NodeA) (p1 : NodeA) : Option Bool := (tree_Compare K p0 p1).bind fun r1 =>
 some (r1 == (0 : Int))
set_option maxHeartbeats 4000000 in
theorem tree_Equal_ok {K : Nat} {p0 : NodeA} {p1 : NodeA} {r : Bool} (h : tree_Equal K p0 p1 = some r) : Cn Tryd.prog 61 [aggV p0.enc, aggV p1.enc] (.d (.val (.bool r))) := by
 refine Cn.oz Tryd.func61 Tryd.call61 Tryd.ntmps61 Tryd.results61 fun hfit => ?_
 unfold tree_Equal at h
 refine AW.kr [] [0, 1] ?_
 refine AW.kr [0, 1] [2, 3] ?_
 refine cm h tree_Compare_ok fun r1 hx2 h => ?_
 refine AW.ret ?_
 cases h; refine nz ?_; exact .same _
/-! ### isochrone/replay.rats -/
def replay_rats (K : Nat) (p0 : RatA) (p1 : RatA) : Option Bool := (tree_Equal K (NodeA.mk (0 : Int) (⟨#[]⟩ : ByteArray) p0 []) (NodeA.mk (0 : Int) (⟨#[]⟩ : ByteArray) p1 [])).bind fun r1 =>
 some r1
set_option maxHeartbeats 4000000 in
theorem replay_rats_ok {K : Nat} {p0 : RatA} {p1 : RatA} {r : Bool} (h : replay_rats K p0 p1 = some r) : Cn Tryd.prog 62 [aggV p0.enc, aggV p1.enc] (.d (.val (.bool r))) := by
 refine Cn.oz Tryd.func62 Tryd.call62 Tryd.ntmps62 Tryd.results62 fun hfit => ?_
 unfold replay_rats at h
 refine AW.kr [] [0, 1] ?_
 refine AW.kr [0, 1] [2, 3] ?_
 refine cv h tree_Equal_ok (fun r1 hx2 h => ?_) (hs := by exact ⟨.aggL ⟨.same _, .same _, .same _, .same _, .same _, .nil, trivial⟩, .aggL ⟨.same _, .same _, .same _, .same _, .same _, .nil, trivial⟩, trivial⟩)
 refine AW.ret ?_
 cases h; refine nz ?_; exact .same _
/-! ### isochrone/replay.polys -/
def replay_polys (K : Nat) (p0 : Api_PolyA) (p1 : Api_PolyA) : Option Bool := ((
  ((
   if (p0.n != p1.n) then
    some true
   else
    some ((p0.terms.length : Int) != (p1.terms.length : Int))) : Option Bool).bind (fun v3_0 =>
  if v3_0 then
   outM (
    some false)
  else
   some (.go ()))) : Option (Out Unit _)).bind (Out.fin fun _ =>
 ((iter (S := Int) (R := Out Unit _) K (fun again i7_0 =>
  if (decide (i7_0 < (p0.terms.length : Int))) then
   ((
    (idx p0.terms i7_0).bind fun x14 =>
    ((
     (idx p1.terms i7_0).bind fun x18 =>
     (replay_ints K x14.exps x18.exps).bind fun r20 =>
     if (!r20) then
      some true
     else
      (replay_rats K x14.coef x18.coef).bind fun r23 =>
      some (!r23)) : Option Bool).bind (fun v16_0 =>
    if v16_0 then
     outM (
      outM (
       some false))
    else
     some (.go ()))) : Option (Out Unit _)).bind (Out.fin fun _ =>
   again (IntKind.wrap .i64 (i7_0 + (1 : Int))))
  else
   some (.go ())) (0 : Int)) : Option (Out Unit _)).bind (Out.fin fun _ =>
 some true))
set_option maxHeartbeats 4000000 in
theorem replay_polys_ok {K : Nat} {p0 : Api_PolyA} {p1 : Api_PolyA} {r : Bool} (h : replay_polys K p0 p1 = some r) : Cn Tryd.prog 63 [aggV p0.enc, aggV p1.enc] (.d (.val (.bool r))) := by
 refine Cn.oz Tryd.func63 Tryd.call63 Tryd.ntmps63 Tryd.results63 fun hfit => ?_
 unfold replay_polys at h
 refine AW.kr [] [0, 1] ?_
 refine AW.ks [0, 1] [2, 3] ?_
 refine AW.jo h (fun _ => [(2, .ptr 0 2 0 0), (3, .ptr 1 2 0 0)]) (fun _ => [vE p0.enc, vE p1.enc]) (fun oJ2 h hJ2 => ?_) fun ⟨⟩ h => ?_
 ·refine AW.jn h (fun v3_0 => [(2, .ptr 0 2 0 0), (3, .ptr 1 2 0 0), (20, vB v3_0)]) (fun v3_0 => [vE p0.enc, vE p1.enc]) (fun oJ4 h => ?_) fun v3_0 h => ?_
  ·refine AW.rp ?_
   refine sK h (fun hb5 h => ?_) fun hb5 h => ?_
   ·exact ja [0, 1] h
   exact ja [0, 1] h
  refine AW.tk h (fun hb6 h => ?_) fun hb6 h => ?_
  ·refine AW.ro ?_
   refine AW.ret ?_
   have h := up h hJ2
   cases h; refine nz ?_; exact .same _
  exact jo [0, 1] h
 refine AW.one ?_
 refine AW.ro ?_
 refine AW.ks [1] [3, 22, 23, 24] ?_
 refine AW.lp h (fun _ => []) (fun _ => []) (fun i7_0 => [(3, .ptr 0 2 0 0), (22, vL Api_MonoA.enc p0.terms), (23, vI (p0.terms.length : Int)), (24, vI i7_0)]) (fun i7_0 => [vE p1.enc]) [0] (fun oJ10 hJ10 again i7_0 h => ?_) fun ⟨⟩ h => ?_
 ·refine AW.ro ?_
  refine AW.ks [0] [3, 22, 23, 24, 25] ?_
  refine AW.one ?_
  refine AW.tt h (fun hb11 h => ?_) fun hb11 h => ?_
  ·refine AW.sk ?_
   refine AW.ks [0] [3, 22, 23, 24] ?_
   refine AW.jo h (fun _ => [(3, .ptr 0 2 0 0), (22, vL Api_MonoA.enc p0.terms), (23, vI (p0.terms.length : Int)), (24, vI i7_0)]) (fun _ => [vE p1.enc]) (fun oJ13 h hJ13 => ?_) fun ⟨⟩ h => ?_
   ·refine AW.block ?_
    refine AW.ro ?_
    refine bx h fun x14 h0 h1 h => ?_
    refine AW.ks [0, 4] [3, 5, 6, 22, 23, 24] ?_
    refine AW.jn h (fun v16_0 => [(3, .ptr 0 2 0 0), (22, vL Api_MonoA.enc p0.terms), (23, vI (p0.terms.length : Int)), (24, vI i7_0), (50, vB v16_0)]) (fun v16_0 => [vE p1.enc]) (fun oJ17 h => ?_) fun v16_0 h => ?_
    ·refine AW.rp ?_
     refine bx h fun x18 h0 h1 h => ?_
     refine pm h replay_ints_ok fun r20 hx21 h => ?_
     refine sK h (fun hb22 h => ?_) fun hb22 h => ?_
     ·exact ja [0] h
     refine pm h replay_rats_ok fun r23 hx24 h => ?_
     exact ja [0] h
    refine AW.tk h (fun hb25 h => ?_) fun hb25 h => ?_
    ·refine AW.ro ?_
     refine AW.ret ?_
     have h := up h hJ13
     have h := up h hJ10
     cases h; refine nz ?_; exact .same _
    exact jo [0] h
   refine AW.rp ?_
   exact na [0] h
  refine AW.ex ?_
  exact jo [] h
 refine AW.kr [] [] ?_
 refine AW.ret ?_
 cases h; refine nz ?_; exact .same _
/-! ### isochrone/replay.certs -/
def replay_certs_body (K : Nat) (self48 : (Api_CertA × Api_CertA) → Option Bool) (p0 : Api_CertA) (p1 : Api_CertA) : Option Bool := ((
  ((
   if (p0.kind != p1.kind) then
    some true
   else
    if ((p0.nums.length : Int) != (p1.nums.length : Int)) then
     some true
    else
     if ((p0.polys.length : Int) != (p1.polys.length : Int)) then
      some true
     else
      if ((p0.squares.length : Int) != (p1.squares.length : Int)) then
       some true
      else
       some ((p0.kids.length : Int) != (p1.kids.length : Int))) : Option Bool).bind (fun v3_0 =>
  if v3_0 then
   outM (
    some false)
  else
   some (.go ()))) : Option (Out Unit _)).bind (Out.fin fun _ =>
 ((iter (S := Int) (R := Out Unit _) K (fun again i10_0 =>
  if (decide (i10_0 < (p0.nums.length : Int))) then
   (idx p0.nums i10_0).bind fun x15 =>
   (idx p1.nums i10_0).bind fun x17 =>
   (replay_rats K x15 x17).bind fun r19 =>
   if (!r19) then
    outM (
     some false)
   else
    again (IntKind.wrap .i64 (i10_0 + (1 : Int)))
  else
   some (.go ())) (0 : Int)) : Option (Out Unit _)).bind (Out.fin fun _ =>
 ((iter (S := Int) (R := Out Unit _) K (fun again i22_0 =>
  if (decide (i22_0 < (p0.polys.length : Int))) then
   (idx p0.polys i22_0).bind fun x27 =>
   (idx p1.polys i22_0).bind fun x29 =>
   (replay_polys K x27 x29).bind fun r31 =>
   if (!r31) then
    outM (
     some false)
   else
    again (IntKind.wrap .i64 (i22_0 + (1 : Int)))
  else
   some (.go ())) (0 : Int)) : Option (Out Unit _)).bind (Out.fin fun _ =>
 ((iter (S := Int) (R := Out Unit _) K (fun again i34_0 =>
  if (decide (i34_0 < (p0.squares.length : Int))) then
   ((
    ((
     (idx p0.squares i34_0).bind fun x43 =>
     (idx p1.squares i34_0).bind fun x45 =>
     (replay_rats K x43.weight x45.weight).bind fun r47 =>
     if (!r47) then
      some true
     else
      (replay_polys K x43.poly x45.poly).bind fun r50 =>
      some (!r50)) : Option Bool).bind (fun v41_0 =>
    if v41_0 then
     outM (
      outM (
       some false))
    else
     some (.go ()))) : Option (Out Unit _)).bind (Out.fin fun _ =>
   again (IntKind.wrap .i64 (i34_0 + (1 : Int))))
  else
   some (.go ())) (0 : Int)) : Option (Out Unit _)).bind (Out.fin fun _ =>
 ((iter (S := Int) (R := Out Unit _) K (fun again i53_0 =>
  if (decide (i53_0 < (p0.kids.length : Int))) then
   (idx p0.kids i53_0).bind fun x58 =>
   (idx p1.kids i53_0).bind fun x60 =>
   (self48 (x58, x60)).bind fun r62 =>
   if (!r62) then
    outM (
     some false)
   else
    again (IntKind.wrap .i64 (i53_0 + (1 : Int)))
  else
   some (.go ())) (0 : Int)) : Option (Out Unit _)).bind (Out.fin fun _ =>
 some true)))))
set_option maxHeartbeats 4000000 in
theorem replay_certs_step (K : Nat) (self48 : (Api_CertA × Api_CertA) → Option Bool) (hself48 : ∀ (q : Api_CertA × Api_CertA) (r : Bool), self48 q = some r → Cn Tryd.prog 48 [aggV q.1.enc, aggV q.2.enc] (.d (.val (.bool r)))) (p0 : Api_CertA) (p1 : Api_CertA) (r : Bool) (h : replay_certs_body K self48 p0 p1 = some r) : Cn Tryd.prog 48 [aggV p0.enc, aggV p1.enc] (.d (.val (.bool r))) := by
 refine Cn.oz Tryd.func48 Tryd.call48 Tryd.ntmps48 Tryd.results48 fun hfit => ?_
 unfold replay_certs_body at h
 refine AW.kr [] [0, 1] ?_
 refine AW.ks [0, 1] [2, 3] ?_
 refine AW.jo h (fun _ => [(2, .ptr 0 5 0 0), (3, .ptr 1 5 0 0)]) (fun _ => [vE p0.enc, vE p1.enc]) (fun oJ2 h hJ2 => ?_) fun ⟨⟩ h => ?_
 ·refine AW.jn h (fun v3_0 => [(2, .ptr 0 5 0 0), (3, .ptr 1 5 0 0), (49, vB v3_0)]) (fun v3_0 => [vE p0.enc, vE p1.enc]) (fun oJ4 h => ?_) fun v3_0 h => ?_
  ·refine AW.rp ?_
   refine sK h (fun hb5 h => ?_) fun hb5 h => ?_
   ·exact ja [0, 1] h
   refine sK h (fun hb6 h => ?_) fun hb6 h => ?_
   ·exact ja [0, 1] h
   refine sK h (fun hb7 h => ?_) fun hb7 h => ?_
   ·exact ja [0, 1] h
   refine sK h (fun hb8 h => ?_) fun hb8 h => ?_
   ·exact ja [0, 1] h
   exact ja [0, 1] h
  refine AW.tk h (fun hb9 h => ?_) fun hb9 h => ?_
  ·refine AW.ro ?_
   refine AW.ret ?_
   have h := up h hJ2
   cases h; refine nz ?_; exact .same _
  exact jo [0, 1] h
 refine AW.one ?_
 refine AW.ro ?_
 refine AW.ks [0, 1] [2, 3, 52, 53] ?_
 refine AW.lp h (fun _ => [(2, .ptr 0 5 0 0), (3, .ptr 1 5 0 0)]) (fun _ => [vE p0.enc, vE p1.enc]) (fun i10_0 => [(2, .ptr 0 5 0 0), (3, .ptr 1 5 0 0), (52, vI (p0.nums.length : Int)), (53, vI i10_0)]) (fun i10_0 => [vE p0.enc, vE p1.enc]) [0, 1] (fun oJ13 hJ13 again i10_0 h => ?_) fun ⟨⟩ h => ?_
 ·refine AW.ro ?_
  refine AW.ks [0, 1] [2, 3, 52, 53, 54] ?_
  refine AW.one ?_
  refine AW.tt h (fun hb14 h => ?_) fun hb14 h => ?_
  ·refine AW.sk ?_
   refine AW.ks [0, 1] [2, 3, 52, 53] ?_
   refine AW.one ?_
   refine AW.block ?_
   refine AW.ro ?_
   refine AW.kr [0, 1] [2, 3, 5, 52, 53] ?_
   refine bx h fun x15 h0 h1 h => ?_
   refine bx h fun x17 h0 h1 h => ?_
   refine pm h replay_rats_ok fun r19 hx20 h => ?_
   refine AW.ks [0, 1] [2, 3, 52, 53, 67] ?_
   refine AW.tk h (fun hb21 h => ?_) fun hb21 h => ?_
   ·refine AW.ro ?_
    refine AW.ret ?_
    have h := up h hJ13
    cases h; refine nz ?_; exact .same _
   refine AW.ks [0, 1] [2, 3, 52, 53] ?_
   refine AW.rp ?_
   exact na [0, 1] h
  refine AW.ex ?_
  exact jo [0, 1] h
 refine AW.ks [0, 1] [2, 3] ?_
 refine AW.one ?_
 refine AW.ro ?_
 refine AW.ks [0, 1] [2, 3, 71, 72] ?_
 refine AW.lp h (fun _ => [(2, .ptr 0 5 0 0), (3, .ptr 1 5 0 0)]) (fun _ => [vE p0.enc, vE p1.enc]) (fun i22_0 => [(2, .ptr 0 5 0 0), (3, .ptr 1 5 0 0), (71, vI (p0.polys.length : Int)), (72, vI i22_0)]) (fun i22_0 => [vE p0.enc, vE p1.enc]) [0, 1] (fun oJ25 hJ25 again i22_0 h => ?_) fun ⟨⟩ h => ?_
 ·refine AW.ro ?_
  refine AW.ks [0, 1] [2, 3, 71, 72, 73] ?_
  refine AW.one ?_
  refine AW.tt h (fun hb26 h => ?_) fun hb26 h => ?_
  ·refine AW.sk ?_
   refine AW.ks [0, 1] [2, 3, 71, 72] ?_
   refine AW.one ?_
   refine AW.block ?_
   refine AW.ro ?_
   refine AW.kr [0, 1] [2, 3, 6, 71, 72] ?_
   refine bx h fun x27 h0 h1 h => ?_
   refine bx h fun x29 h0 h1 h => ?_
   refine pm h replay_polys_ok fun r31 hx32 h => ?_
   refine AW.ks [0, 1] [2, 3, 71, 72, 86] ?_
   refine AW.tk h (fun hb33 h => ?_) fun hb33 h => ?_
   ·refine AW.ro ?_
    refine AW.ret ?_
    have h := up h hJ25
    cases h; refine nz ?_; exact .same _
   refine AW.ks [0, 1] [2, 3, 71, 72] ?_
   refine AW.rp ?_
   exact na [0, 1] h
  refine AW.ex ?_
  exact jo [0, 1] h
 refine AW.ks [0, 1] [2, 3] ?_
 refine AW.one ?_
 refine AW.ro ?_
 refine AW.ks [0, 1] [2, 3, 90, 91] ?_
 refine AW.lp h (fun _ => [(2, .ptr 0 5 0 0), (3, .ptr 1 5 0 0)]) (fun _ => [vE p0.enc, vE p1.enc]) (fun i34_0 => [(2, .ptr 0 5 0 0), (3, .ptr 1 5 0 0), (90, vI (p0.squares.length : Int)), (91, vI i34_0)]) (fun i34_0 => [vE p0.enc, vE p1.enc]) [0, 1] (fun oJ37 hJ37 again i34_0 h => ?_) fun ⟨⟩ h => ?_
 ·refine AW.ro ?_
  refine AW.ks [0, 1] [2, 3, 90, 91, 92] ?_
  refine AW.one ?_
  refine AW.tt h (fun hb38 h => ?_) fun hb38 h => ?_
  ·refine AW.sk ?_
   refine AW.ks [0, 1] [2, 3, 90, 91] ?_
   refine AW.jo h (fun _ => [(2, .ptr 0 5 0 0), (3, .ptr 1 5 0 0), (90, vI (p0.squares.length : Int)), (91, vI i34_0)]) (fun _ => [vE p0.enc, vE p1.enc]) (fun oJ40 h hJ40 => ?_) fun ⟨⟩ h => ?_
   ·refine AW.block ?_
    refine AW.ro ?_
    refine AW.ks [0, 1] [2, 3, 7, 90, 91] ?_
    refine AW.jn h (fun v41_0 => [(2, .ptr 0 5 0 0), (3, .ptr 1 5 0 0), (90, vI (p0.squares.length : Int)), (91, vI i34_0), (123, vB v41_0)]) (fun v41_0 => [vE p0.enc, vE p1.enc]) (fun oJ42 h => ?_) fun v41_0 h => ?_
    ·refine AW.rp ?_
     refine bx h fun x43 h0 h1 h => ?_
     refine bx h fun x45 h0 h1 h => ?_
     refine pm h replay_rats_ok fun r47 hx48 h => ?_
     refine sK h (fun hb49 h => ?_) fun hb49 h => ?_
     ·exact ja [0, 1] h
     refine pm h replay_polys_ok fun r50 hx51 h => ?_
     exact ja [0, 1] h
    refine AW.tk h (fun hb52 h => ?_) fun hb52 h => ?_
    ·refine AW.ro ?_
     refine AW.ret ?_
     have h := up h hJ40
     have h := up h hJ37
     cases h; refine nz ?_; exact .same _
    exact jo [0, 1] h
   refine AW.rp ?_
   exact na [0, 1] h
  refine AW.ex ?_
  exact jo [0, 1] h
 refine AW.ks [0, 1] [2, 3] ?_
 refine AW.one ?_
 refine AW.ro ?_
 refine AW.ks [0, 1] [2, 3, 127, 128] ?_
 refine AW.lp h (fun _ => []) (fun _ => []) (fun i53_0 => [(2, .ptr 0 5 0 0), (3, .ptr 1 5 0 0), (127, vI (p0.kids.length : Int)), (128, vI i53_0)]) (fun i53_0 => [vE p0.enc, vE p1.enc]) [0, 1] (fun oJ56 hJ56 again i53_0 h => ?_) fun ⟨⟩ h => ?_
 ·refine AW.ro ?_
  refine AW.ks [0, 1] [2, 3, 127, 128, 129] ?_
  refine AW.one ?_
  refine AW.tt h (fun hb57 h => ?_) fun hb57 h => ?_
  ·refine AW.sk ?_
   refine AW.ks [0, 1] [2, 3, 127, 128] ?_
   refine AW.one ?_
   refine AW.block ?_
   refine AW.ro ?_
   refine AW.kr [0, 1] [2, 3, 8, 127, 128] ?_
   refine bx h fun x58 h0 h1 h => ?_
   refine bx h fun x60 h0 h1 h => ?_
   refine pm h (hself48 _ _) fun r62 hx63 h => ?_
   refine AW.ks [0, 1] [2, 3, 127, 128, 142] ?_
   refine AW.tk h (fun hb64 h => ?_) fun hb64 h => ?_
   ·refine AW.ro ?_
    refine AW.ret ?_
    have h := up h hJ56
    cases h; refine nz ?_; exact .same _
   refine AW.ks [0, 1] [2, 3, 127, 128] ?_
   refine AW.rp ?_
   exact na [0, 1] h
  refine AW.ex ?_
  exact jo [] h
 refine AW.kr [] [] ?_
 refine AW.ret ?_
 cases h; refine nz ?_; exact .same _
def replay_certs (K : Nat) (p0 : Api_CertA) (p1 : Api_CertA) : Option Bool := iter K (fun self q => replay_certs_body K self q.1 q.2) (p0, p1)
theorem key_replay_certs {K : Nat} (k : Nat) : (∀ (q : Api_CertA × Api_CertA) (r : Bool), iter k (fun self q => replay_certs_body K self q.1 q.2) q = some r → Cn Tryd.prog 48 [aggV q.1.enc, aggV q.2.enc] (.d (.val (.bool r)))) := by
 induction k with
 | zero => exact fun q r h => by cases h
 | succ k ih => exact fun q r h => replay_certs_step K _ ih q.1 q.2 r h
theorem replay_certs_ok {K : Nat} {p0 : Api_CertA} {p1 : Api_CertA} {r : Bool} (h : replay_certs K p0 p1 = some r) : Cn Tryd.prog 48 [aggV p0.enc, aggV p1.enc] (.d (.val (.bool r))) := (key_replay_certs K) (p0, p1) r h
/-! ### isochrone/replay.nodes -/
def replay_nodes (K : Nat) (p0 : List NodeA) (p1 : List NodeA) : Option Bool := if ((p0.length : Int) != (p1.length : Int)) then
  some false
 else
  ((iter (S := Int) (R := Out Unit _) K (fun again i2_0 =>
   if (decide (i2_0 < (p0.length : Int))) then
    (idx p0 i2_0).bind fun x7 =>
    (idx p1 i2_0).bind fun x9 =>
    (tree_Equal K x7 x9).bind fun r11 =>
    if (!r11) then
     outM (
      some false)
    else
     again (IntKind.wrap .i64 (i2_0 + (1 : Int)))
   else
    some (.go ())) (0 : Int)) : Option (Out Unit _)).bind (Out.fin fun _ =>
  some true)
set_option maxHeartbeats 4000000 in
theorem replay_nodes_ok {K : Nat} {p0 : List NodeA} {p1 : List NodeA} {r : Bool} (h : replay_nodes K p0 p1 = some r) : Cn Tryd.prog 45 [.d (slD NodeA.enc p0), .d (slD NodeA.enc p1)] (.d (.val (.bool r))) := by
 refine Cn.oz Tryd.func45 Tryd.call45 Tryd.ntmps45 Tryd.results45 fun hfit => ?_
 unfold replay_nodes at h
 refine AW.kr [] [0, 1] ?_
 refine AW.ks [] [0, 1] ?_
 refine AW.one ?_
 refine AW.ro ?_
 refine AW.ks [] [0, 1, 10] ?_
 refine AW.tk h (fun hb1 h => ?_) fun hb1 h => ?_
 ·refine AW.ro ?_
  refine AW.ret ?_
  cases h; refine nz ?_; exact .same _
 refine AW.ks [] [0, 1] ?_
 refine AW.one ?_
 refine AW.ro ?_
 refine AW.ks [] [0, 1, 12, 13] ?_
 refine AW.lp h (fun _ => []) (fun _ => []) (fun i2_0 => [(0, vL NodeA.enc p0), (1, vL NodeA.enc p1), (12, vI (p0.length : Int)), (13, vI i2_0)]) (fun i2_0 => []) [] (fun oJ5 hJ5 again i2_0 h => ?_) fun ⟨⟩ h => ?_
 ·refine AW.ro ?_
  refine AW.ks [] [0, 1, 12, 13, 14] ?_
  refine AW.one ?_
  refine AW.tt h (fun hb6 h => ?_) fun hb6 h => ?_
  ·refine AW.sk ?_
   refine AW.ks [] [0, 1, 12, 13] ?_
   refine AW.one ?_
   refine AW.block ?_
   refine AW.ro ?_
   refine AW.kr [] [0, 1, 5, 12, 13] ?_
   refine bx h fun x7 h0 h1 h => ?_
   refine bx h fun x9 h0 h1 h => ?_
   refine pm h tree_Equal_ok fun r11 hx12 h => ?_
   refine AW.ks [] [0, 1, 12, 13, 25] ?_
   refine AW.tk h (fun hb13 h => ?_) fun hb13 h => ?_
   ·refine AW.ro ?_
    refine AW.ret ?_
    have h := up h hJ5
    cases h; refine nz ?_; exact .same _
   refine AW.ks [] [0, 1, 12, 13] ?_
   refine AW.rp ?_
   exact na [] h
  refine AW.ex ?_
  exact jo [] h
 refine AW.kr [] [] ?_
 refine AW.ret ?_
 cases h; refine nz ?_; exact .same _
/-! ### isochrone/replay.pairs -/
def replay_pairs (K : Nat) (p0 : List Api_PairA) (p1 : List Api_PairA) : Option Bool := if ((p0.length : Int) != (p1.length : Int)) then
  some false
 else
  ((iter (S := Int) (R := Out Unit _) K (fun again i2_0 =>
   if (decide (i2_0 < (p0.length : Int))) then
    ((
     (idx p0 i2_0).bind fun x9 =>
     (idx p1 i2_0).bind fun x11 =>
     ((
      (tree_Equal K x9.what x11.what).bind fun r15 =>
      if (!r15) then
       some true
      else
       (tree_Equal K x9.with_ x11.with_).bind fun r18 =>
       if (!r18) then
        some true
       else
        (replay_nodes K x9.rates x11.rates).bind fun r21 =>
        some (!r21)) : Option Bool).bind (fun v13_0 =>
     if v13_0 then
      outM (
       outM (
        some false))
     else
      some (.go ()))) : Option (Out Unit _)).bind (Out.fin fun _ =>
    again (IntKind.wrap .i64 (i2_0 + (1 : Int))))
   else
    some (.go ())) (0 : Int)) : Option (Out Unit _)).bind (Out.fin fun _ =>
  some true)
set_option maxHeartbeats 4000000 in
theorem replay_pairs_ok {K : Nat} {p0 : List Api_PairA} {p1 : List Api_PairA} {r : Bool} (h : replay_pairs K p0 p1 = some r) : Cn Tryd.prog 46 [.d (slD Api_PairA.enc p0), .d (slD Api_PairA.enc p1)] (.d (.val (.bool r))) := by
 refine Cn.oz Tryd.func46 Tryd.call46 Tryd.ntmps46 Tryd.results46 fun hfit => ?_
 unfold replay_pairs at h
 refine AW.kr [] [0, 1] ?_
 refine AW.ks [] [0, 1] ?_
 refine AW.one ?_
 refine AW.ro ?_
 refine AW.ks [] [0, 1, 12] ?_
 refine AW.tk h (fun hb1 h => ?_) fun hb1 h => ?_
 ·refine AW.ro ?_
  refine AW.ret ?_
  cases h; refine nz ?_; exact .same _
 refine AW.ks [] [0, 1] ?_
 refine AW.one ?_
 refine AW.ro ?_
 refine AW.ks [] [1, 13, 14, 15] ?_
 refine AW.lp h (fun _ => []) (fun _ => []) (fun i2_0 => [(1, vL Api_PairA.enc p1), (13, vL Api_PairA.enc p0), (14, vI (p0.length : Int)), (15, vI i2_0)]) (fun i2_0 => []) [] (fun oJ5 hJ5 again i2_0 h => ?_) fun ⟨⟩ h => ?_
 ·refine AW.ro ?_
  refine AW.ks [] [1, 13, 14, 15, 16] ?_
  refine AW.one ?_
  refine AW.tt h (fun hb6 h => ?_) fun hb6 h => ?_
  ·refine AW.sk ?_
   refine AW.ks [] [1, 13, 14, 15] ?_
   refine AW.jo h (fun _ => [(1, vL Api_PairA.enc p1), (13, vL Api_PairA.enc p0), (14, vI (p0.length : Int)), (15, vI i2_0)]) (fun _ => []) (fun oJ8 h hJ8 => ?_) fun ⟨⟩ h => ?_
   ·refine AW.block ?_
    refine AW.ro ?_
    refine bx h fun x9 h0 h1 h => ?_
    refine AW.kr [3] [1, 5, 6, 13, 14, 15] ?_
    refine bx h fun x11 h0 h1 h => ?_
    refine AW.ks [0, 5] [1, 6, 7, 13, 14, 15] ?_
    refine AW.jn h (fun v13_0 => [(1, vL Api_PairA.enc p1), (13, vL Api_PairA.enc p0), (14, vI (p0.length : Int)), (15, vI i2_0), (45, vB v13_0)]) (fun v13_0 => []) (fun oJ14 h => ?_) fun v13_0 h => ?_
    ·refine AW.rp ?_
     refine cm h tree_Equal_ok fun r15 hx16 h => ?_
     refine sK h (fun hb17 h => ?_) fun hb17 h => ?_
     ·exact ja [] h
     refine cm h tree_Equal_ok fun r18 hx19 h => ?_
     refine sK h (fun hb20 h => ?_) fun hb20 h => ?_
     ·exact ja [] h
     refine cm h replay_nodes_ok fun r21 hx22 h => ?_
     exact ja [] h
    refine AW.tk h (fun hb23 h => ?_) fun hb23 h => ?_
    ·refine AW.ro ?_
     refine AW.ret ?_
     have h := up h hJ8
     have h := up h hJ5
     cases h; refine nz ?_; exact .same _
    exact jo [] h
   refine AW.rp ?_
   exact na [] h
  refine AW.ex ?_
  exact jo [] h
 refine AW.kr [] [] ?_
 refine AW.ret ?_
 cases h; refine nz ?_; exact .same _
/-! ### isochrone/replay.texts -/
def replay_texts (K : Nat) (p0 : List ByteArray) (p1 : List ByteArray) : Option Bool := if ((p0.length : Int) != (p1.length : Int)) then
  some false
 else
  ((iter (S := Int) (R := Out Unit _) K (fun again i2_0 =>
   if (decide (i2_0 < (p0.length : Int))) then
    (idx p0 i2_0).bind fun x7 =>
    (idx p1 i2_0).bind fun x9 =>
    if (!(x7.toList == x9.toList)) then
     outM (
      some false)
    else
     again (IntKind.wrap .i64 (i2_0 + (1 : Int)))
   else
    some (.go ())) (0 : Int)) : Option (Out Unit _)).bind (Out.fin fun _ =>
  some true)
set_option maxHeartbeats 4000000 in
theorem replay_texts_ok {K : Nat} {p0 : List ByteArray} {p1 : List ByteArray} {r : Bool} (h : replay_texts K p0 p1 = some r) : Cn Tryd.prog 47 [.d (slD strV p0), .d (slD strV p1)] (.d (.val (.bool r))) := by
 refine Cn.oz Tryd.func47 Tryd.call47 Tryd.ntmps47 Tryd.results47 fun hfit => ?_
 unfold replay_texts at h
 refine AW.kr [] [0, 1] ?_
 refine AW.ks [] [0, 1] ?_
 refine AW.one ?_
 refine AW.ro ?_
 refine AW.ks [] [0, 1, 10] ?_
 refine AW.tk h (fun hb1 h => ?_) fun hb1 h => ?_
 ·refine AW.ro ?_
  refine AW.ret ?_
  cases h; refine nz ?_; exact .same _
 refine AW.ks [] [0, 1] ?_
 refine AW.one ?_
 refine AW.ro ?_
 refine AW.ks [] [0, 1, 12, 13] ?_
 refine AW.lp h (fun _ => []) (fun _ => []) (fun i2_0 => [(0, vL strV p0), (1, vL strV p1), (12, vI (p0.length : Int)), (13, vI i2_0)]) (fun i2_0 => []) [] (fun oJ5 hJ5 again i2_0 h => ?_) fun ⟨⟩ h => ?_
 ·refine AW.ro ?_
  refine AW.ks [] [0, 1, 12, 13, 14] ?_
  refine AW.one ?_
  refine AW.tt h (fun hb6 h => ?_) fun hb6 h => ?_
  ·refine AW.sk ?_
   refine AW.ks [] [0, 1, 12, 13] ?_
   refine AW.one ?_
   refine AW.block ?_
   refine AW.ro ?_
   refine AW.kr [] [0, 1, 5, 12, 13] ?_
   refine bx h fun x7 h0 h1 h => ?_
   refine bx h fun x9 h0 h1 h => ?_
   refine AW.ks [] [0, 1, 12, 13, 24] ?_
   refine AW.tk h (fun hb11 h => ?_) fun hb11 h => ?_
   ·refine AW.ro ?_
    refine AW.ret ?_
    have h := up h hJ5
    cases h; refine nz ?_; exact .same _
   refine AW.ks [] [0, 1, 12, 13] ?_
   refine AW.rp ?_
   exact na [] h
  refine AW.ex ?_
  exact jo [] h
 refine AW.kr [] [] ?_
 refine AW.ret ?_
 cases h; refine nz ?_; exact .same _
/-! ### isochrone/replay.bare -/
def replay_bare (K : Nat) (p0 : Api_ProofA) (p1 : Api_ProofA) : Option Bool := if (p0.rule.toList == p1.rule.toList) then
  if (p0.name.toList == p1.name.toList) then
   (replay_nodes K p0.forms p1.forms).bind fun r3 =>
   if r3 then
    (replay_pairs K p0.subst p1.subst).bind fun r6 =>
    if r6 then
     (replay_ints K p0.path p1.path).bind fun r9 =>
     if r9 then
      (replay_texts K p0.args p1.args).bind fun r12 =>
      if r12 then
       (replay_certs K p0.cert p1.cert).bind fun r15 =>
       some r15
      else
       some false
     else
      some false
    else
     some false
   else
    some false
  else
   some false
 else
  some false
set_option maxHeartbeats 4000000 in
theorem replay_bare_ok {K : Nat} {p0 : Api_ProofA} {p1 : Api_ProofA} {r : Bool} (h : replay_bare K p0 p1 = some r) : Cn Tryd.prog 26 [aggV p0.enc, aggV p1.enc] (.d (.val (.bool r))) := by
 refine Cn.oz Tryd.func26 Tryd.call26 Tryd.ntmps26 Tryd.results26 fun hfit => ?_
 unfold replay_bare at h
 refine AW.kr [] [0, 1] ?_
 refine AW.kr [0, 1] [2, 3] ?_
 refine sK h (fun hb1 h => ?_) fun hb1 h => ?_
 ·refine sK h (fun hb2 h => ?_) fun hb2 h => ?_
  ·refine cm h replay_nodes_ok fun r3 hx4 h => ?_
   refine sK h (fun hb5 h => ?_) fun hb5 h => ?_
   ·refine cm h replay_pairs_ok fun r6 hx7 h => ?_
    refine sK h (fun hb8 h => ?_) fun hb8 h => ?_
    ·refine cm h replay_ints_ok fun r9 hx10 h => ?_
     refine sK h (fun hb11 h => ?_) fun hb11 h => ?_
     ·refine cm h replay_texts_ok fun r12 hx13 h => ?_
      refine sK h (fun hb14 h => ?_) fun hb14 h => ?_
      ·refine cm h replay_certs_ok fun r15 hx16 h => ?_
       refine AW.ret ?_
       cases h; refine nz ?_; exact .same _
      refine AW.ret ?_
      cases h; refine nz ?_; exact .same _
     refine AW.ret ?_
     cases h; refine nz ?_; exact .same _
    refine AW.ret ?_
    cases h; refine nz ?_; exact .same _
   refine AW.ret ?_
   cases h; refine nz ?_; exact .same _
  refine AW.ret ?_
  cases h; refine nz ?_; exact .same _
 refine AW.ret ?_
 cases h; refine nz ?_; exact .same _
/-! ### isochrone/replay.Equal -/
def replay_Equal_body (K : Nat) (self15 : (Api_ProofA × Api_ProofA) → Option Bool) (p0 : Api_ProofA) (p1 : Api_ProofA) : Option Bool := ((
  ((
   (replay_bare K p0 p1).bind fun r5 =>
   if (!r5) then
    some true
   else
    some ((p0.kids.length : Int) != (p1.kids.length : Int))) : Option Bool).bind (fun v3_0 =>
  if v3_0 then
   outM (
    some false)
  else
   some (.go ()))) : Option (Out Unit _)).bind (Out.fin fun _ =>
 ((iter (S := Int) (R := Out Unit _) K (fun again i9_0 =>
  if (decide (i9_0 < (p0.kids.length : Int))) then
   (idx p0.kids i9_0).bind fun x14 =>
   (idx p1.kids i9_0).bind fun x16 =>
   (self15 (x14, x16)).bind fun r18 =>
   if (!r18) then
    outM (
     some false)
   else
    again (IntKind.wrap .i64 (i9_0 + (1 : Int)))
  else
   some (.go ())) (0 : Int)) : Option (Out Unit _)).bind (Out.fin fun _ =>
 some true))
set_option maxHeartbeats 4000000 in
theorem replay_Equal_step (K : Nat) (self15 : (Api_ProofA × Api_ProofA) → Option Bool) (hself15 : ∀ (q : Api_ProofA × Api_ProofA) (r : Bool), self15 q = some r → Cn Tryd.prog 15 [aggV q.1.enc, aggV q.2.enc] (.d (.val (.bool r)))) (p0 : Api_ProofA) (p1 : Api_ProofA) (r : Bool) (h : replay_Equal_body K self15 p0 p1 = some r) : Cn Tryd.prog 15 [aggV p0.enc, aggV p1.enc] (.d (.val (.bool r))) := by
 refine Cn.oz Tryd.func15 Tryd.call15 Tryd.ntmps15 Tryd.results15 fun hfit => ?_
 unfold replay_Equal_body at h
 refine AW.kr [] [0, 1] ?_
 refine AW.ks [0, 1] [2, 3] ?_
 refine AW.jo h (fun _ => [(2, .ptr 0 12 0 0), (3, .ptr 1 12 0 0)]) (fun _ => [vE p0.enc, vE p1.enc]) (fun oJ2 h hJ2 => ?_) fun ⟨⟩ h => ?_
 ·refine AW.jn h (fun v3_0 => [(2, .ptr 0 12 0 0), (3, .ptr 1 12 0 0), (18, vB v3_0)]) (fun v3_0 => [vE p0.enc, vE p1.enc]) (fun oJ4 h => ?_) fun v3_0 h => ?_
  ·refine AW.rp ?_
   refine cm h replay_bare_ok fun r5 hx6 h => ?_
   refine sK h (fun hb7 h => ?_) fun hb7 h => ?_
   ·exact ja [0, 1] h
   exact ja [0, 1] h
  refine AW.tk h (fun hb8 h => ?_) fun hb8 h => ?_
  ·refine AW.ro ?_
   refine AW.ret ?_
   have h := up h hJ2
   cases h; refine nz ?_; exact .same _
  exact jo [0, 1] h
 refine AW.one ?_
 refine AW.ro ?_
 refine AW.ks [0, 1] [2, 3, 21, 22] ?_
 refine AW.lp h (fun _ => []) (fun _ => []) (fun i9_0 => [(2, .ptr 0 12 0 0), (3, .ptr 1 12 0 0), (21, vI (p0.kids.length : Int)), (22, vI i9_0)]) (fun i9_0 => [vE p0.enc, vE p1.enc]) [0, 1] (fun oJ12 hJ12 again i9_0 h => ?_) fun ⟨⟩ h => ?_
 ·refine AW.ro ?_
  refine AW.ks [0, 1] [2, 3, 21, 22, 23] ?_
  refine AW.one ?_
  refine AW.tt h (fun hb13 h => ?_) fun hb13 h => ?_
  ·refine AW.sk ?_
   refine AW.ks [0, 1] [2, 3, 21, 22] ?_
   refine AW.one ?_
   refine AW.block ?_
   refine AW.ro ?_
   refine AW.kr [0, 1] [2, 3, 5, 21, 22] ?_
   refine bx h fun x14 h0 h1 h => ?_
   refine bx h fun x16 h0 h1 h => ?_
   refine pm h (hself15 _ _) fun r18 hx19 h => ?_
   refine AW.ks [0, 1] [2, 3, 21, 22, 36] ?_
   refine AW.tk h (fun hb20 h => ?_) fun hb20 h => ?_
   ·refine AW.ro ?_
    refine AW.ret ?_
    have h := up h hJ12
    cases h; refine nz ?_; exact .same _
   refine AW.ks [0, 1] [2, 3, 21, 22] ?_
   refine AW.rp ?_
   exact na [0, 1] h
  refine AW.ex ?_
  exact jo [] h
 refine AW.kr [] [] ?_
 refine AW.ret ?_
 cases h; refine nz ?_; exact .same _
def replay_Equal (K : Nat) (p0 : Api_ProofA) (p1 : Api_ProofA) : Option Bool := iter K (fun self q => replay_Equal_body K self q.1 q.2) (p0, p1)
theorem key_replay_Equal {K : Nat} (k : Nat) : (∀ (q : Api_ProofA × Api_ProofA) (r : Bool), iter k (fun self q => replay_Equal_body K self q.1 q.2) q = some r → Cn Tryd.prog 15 [aggV q.1.enc, aggV q.2.enc] (.d (.val (.bool r)))) := by
 induction k with
 | zero => exact fun q r h => by cases h
 | succ k ih => exact fun q r h => replay_Equal_step K _ ih q.1 q.2 r h
theorem replay_Equal_ok {K : Nat} {p0 : Api_ProofA} {p1 : Api_ProofA} {r : Bool} (h : replay_Equal K p0 p1 = some r) : Cn Tryd.prog 15 [aggV p0.enc, aggV p1.enc] (.d (.val (.bool r))) := (key_replay_Equal K) (p0, p1) r h
/-! ### isochrone/isochronelaw22.ReplayEquals -/
def law22_ReplayEquals (K : Nat) (p0 : Api_ProofA) (p1 : Api_ProofA) : Option Bool := (law22_awake K ).bind fun r1 =>
 if (!r1) then
  some false
 else
  (law22_weight K p0).bind fun r4 =>
  if (decide ((3000 : Int) < r4)) then
   some true
  else
   (law22_weight K p1).bind fun r7 =>
   if (decide ((3000 : Int) < r7)) then
    some true
   else
    (replay_Equal K p0 p1).bind fun r10 =>
    (r20_Same K p0 p1).bind fun r12 =>
    some (r10 == r12)
set_option maxHeartbeats 4000000 in
theorem law22_ReplayEquals_ok {K : Nat} {p0 : Api_ProofA} {p1 : Api_ProofA} {r : Bool} (h : law22_ReplayEquals K p0 p1 = some r) : Cn Tryd.prog 4 [aggV p0.enc, aggV p1.enc] (.d (.val (.bool r))) := by
 refine Cn.oz Tryd.func4 Tryd.call4 Tryd.ntmps4 Tryd.results4 fun hfit => ?_
 unfold law22_ReplayEquals at h
 refine AW.kr [] [0, 1] ?_
 refine AW.ks [0, 1] [2, 3] ?_
 refine AW.one ?_
 refine AW.ro ?_
 refine cm h law22_awake_ok fun r1 hx2 h => ?_
 refine AW.ks [0, 1] [2, 3, 6] ?_
 refine AW.tk h (fun hb3 h => ?_) fun hb3 h => ?_
 ·refine AW.ro ?_
  refine AW.ret ?_
  cases h; refine nz ?_; exact .same _
 refine AW.kr [0, 1] [2, 3] ?_
 refine pm h law22_weight_ok fun r4 hx5 h => ?_
 refine sK h (fun hb6 h => ?_) fun hb6 h => ?_
 ·refine AW.ret ?_
  cases h; refine nz ?_; exact .same _
 refine pm h law22_weight_ok fun r7 hx8 h => ?_
 refine sK h (fun hb9 h => ?_) fun hb9 h => ?_
 ·refine AW.ret ?_
  cases h; refine nz ?_; exact .same _
 refine pm h replay_Equal_ok fun r10 hx11 h => ?_
 refine pm h r20_Same_ok fun r12 hx13 h => ?_
 refine AW.ret ?_
 cases h; refine nz ?_; exact .same _
end Go.Proofs.YtnhfojbokhgbhaaDoor
