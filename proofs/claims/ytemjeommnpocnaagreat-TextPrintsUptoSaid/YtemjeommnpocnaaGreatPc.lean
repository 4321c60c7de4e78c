/- Part of the proof of a law: contracts of the functions that the law reaches, or plain laws of them, out of the abstract layer (the texts YtemjeommnpocnaaGreatIso..). No condition. -/
import Derived.Test.YtemjeommnpocnaaGreatW
import Derived.Test.YtemjeommnpocnaaGreatIsoF
import Derived.Test.YtemjeommnpocnaaGreatLman
import Derived.Test.YtemjeommnpocnaaGreatIsoU
import Derived.Test.YtemjeommnpocnaaGreatPb
open Nat (reduceEqDiff reduceAdd reduceSub reduceMul reduceLeDiff reduceLT)
namespace Go.Proofs.YtemjeommnpocnaaGreat
open Go Go.Iso Go.Proofs
set_option linter.unusedSimpArgs false
set_option linter.unusedVariables false
set_option maxRecDepth 100000
/-! ### isochrone/text.Print -/
def text_Print (K : Nat) (p0 : NodeA) : Option (ByteArray × Int) := (tree_Sort K p0.op).bind fun r1 =>
 ((
  ((
   if (r1 == (0 : Int)) then
    some true
   else
    some (r1 == (4 : Int))) : Option Bool).bind (fun v5_0 =>
  if v5_0 then
   outM (
    some ((⟨#[]⟩ : ByteArray), (80 : Int)))
  else
   some (.go ()))) : Option (Out Unit _)).bind (Out.fin fun _ =>
 (tree_Check K p0 r1).bind fun r9 =>
 if (r9 != (0 : Int)) then
  some ((⟨#[]⟩ : ByteArray), r9)
 else
  (text_show K none p0).bind fun r12 =>
  some (strOfNums (r12.getD []), (0 : Int)))
set_option maxHeartbeats 4000000 in
theorem text_Print_ok {K : Nat} {p0 : NodeA} {r : ByteArray × Int} (h : text_Print K p0 = some r) : Cn Tryz.prog 8 [aggV p0.enc] (.tup [.d (.val (.string r.1)), .d (.val (.int .i64 r.2))]) := by
 refine Cn.ofA mixed Tryz.func8 rfl Tryz.call8 Tryz.ntmps8 Tryz.results8 (by simp) (by simp only [go_sem, reduceEqDiff, reduceAdd, reduceSub, reduceMul, reduceLeDiff, reduceLT, Nat.reduceBEq, reduceIte]) fun hfit => ?_
 unfold text_Print at h
 refine AW.kp [] [0] ?_
 refine AW.op mixed ?_
 refine AW.kp [0] [1] ?_
 refine AW.op mixed ?_
 apply obindE h; intro r1 hx2 h
 have hc := nx (tree_Sort_ok (h := hx2))
 refine callP hc ?_
 refine AW.kp [0] [1, 4] ?_
 refine AW.one ?_
 refine obindE h fun oJ4 h hJ4 => ?_
 refine AW.join (S := Unit) (fun _ => [(1, .ptr 0 6 0 0), (4, .d (.val (.int .i64 r1)))]) (fun _ => [some ⟨6, [[.d (.val (.int .i64 p0.op)), .d (.val (.string p0.name)), .d (.val (.bool p0.num.neg)), .d (slD u32V p0.num.num), .d (slD u32V p0.num.den), .d (slD NodeA.enc p0.kids)]]⟩]) (fun x => oJ4 = .go x) ?_ ?_
 ·skip
  refine AW.one ?_
  refine obindE h fun oJ6 h hJ6 => ?_
  refine AW.join (S := Bool) (fun v5_0 => [(1, .ptr 0 6 0 0), (4, .d (.val (.int .i64 r1))), (14, .d (.val (.bool v5_0)))]) (fun v5_0 => [some ⟨6, [[.d (.val (.int .i64 p0.op)), .d (.val (.string p0.name)), .d (.val (.bool p0.num.neg)), .d (slD u32V p0.num.num), .d (slD u32V p0.num.den), .d (slD NodeA.enc p0.kids)]]⟩]) (fun x => x = oJ6) ?_ ?_
  ·skip
   refine AW.rg mixed ?_
   refine splitK_intro (fun hb7 => ?_) (fun hb7 => ?_)
   ·have h := ifT hb7 h
    try simp only [go_sem, reduceEqDiff, reduceAdd, reduceSub, reduceMul, reduceLeDiff, reduceLT, Nat.reduceBEq, reduceIte, hb7]
    refine JoinQ.mk true [0] (Option.some.inj h) (by simp only [go_sem, reduceEqDiff, reduceAdd, reduceSub, reduceMul, reduceLeDiff, reduceLT, Nat.reduceBEq, reduceIte, hb7])
   have h := ifF hb7 h
   try simp only [go_sem, reduceEqDiff, reduceAdd, reduceSub, reduceMul, reduceLeDiff, reduceLT, Nat.reduceBEq, reduceIte, hb7]
   refine JoinQ.mk (r1 == (4 : Int)) [0] (Option.some.inj h) (by simp only [go_sem, reduceEqDiff, reduceAdd, reduceSub, reduceMul, reduceLeDiff, reduceLT, Nat.reduceBEq, reduceIte, hb7])
  rintro v5_0 rfl
  have h := hJ6
  try dsimp only [Out.fin] at h
  refine nz ?_
  refine AW.ts v5_0 (fun hb8 => ?_) (fun hb8 => ?_)
  ·have h := ifT hb8 h
   refine AW.op mixed ?_
   refine AW.ret ?_
   obtain ⟨_, h, ho⟩ := outM_some h
   rw [ho, Out.fin_out] at hJ4
   have h := h.trans hJ4
   obtain rfl := Option.some.inj h
   refine nz ?_
   exact .same _
  have h := ifF hb8 h
  refine AW.sk ?_
  exact JoinQ.ar () [0] (Option.some.inj h).symm
 rintro ⟨⟩ rfl
 have h := hJ4
 try dsimp only [Out.fin] at h
 refine nz ?_
 refine AW.one ?_
 refine AW.op mixed ?_
 apply obindE h; intro r9 hx10 h
 have hc := nx (tree_Check_ok (h := hx10))
 refine callP hc ?_
 refine AW.kp [0] [1, 5] ?_
 refine AW.op mixed ?_
 refine AW.kp [0] [1, 5, 19] ?_
 refine AW.ts (r9 != (0 : Int)) (fun hb11 => ?_) (fun hb11 => ?_)
 ·have h := ifT hb11 h
  refine AW.op mixed ?_
  refine AW.ret ?_
  obtain rfl := Option.some.inj h
  refine nz ?_
  exact .same _
 have h := ifF hb11 h
 refine AW.sk ?_
 refine AW.kp [0] [1] ?_
 refine AW.op mixed ?_
 apply obindE h; intro r12 hx13 h
 have hc := nx (text_show_ok (h := hx13))
 refine callK_grow [] 1000 hc (by simp only [go_sem, reduceEqDiff, reduceAdd, reduceSub, reduceMul, reduceLeDiff, reduceLT, Nat.reduceBEq, reduceIte] <;> rfl) (by simp) (by simp) (by simp only [go_sem, reduceEqDiff, reduceAdd, reduceSub, reduceMul, reduceLeDiff, reduceLT, Nat.reduceBEq, reduceIte]) ?_
 try simp only [go_sem, reduceEqDiff, reduceAdd, reduceSub, reduceMul, reduceLeDiff, reduceLT, Nat.reduceBEq, reduceIte]
 refine cnvO rfl (by kernel_rfl) (by simp only [go_sem, reduceEqDiff, reduceAdd, reduceSub, reduceMul, reduceLeDiff, reduceLT, Nat.reduceBEq, reduceIte]) ?_
 try simp only [go_sem, reduceEqDiff, reduceAdd, reduceSub, reduceMul, reduceLeDiff, reduceLT, Nat.reduceBEq, reduceIte]
 refine AW.ret ?_
 obtain rfl := Option.some.inj h
 refine nz ?_
 exact .same _
/-! ### isochrone/isochronelaw09.awake -/
def law09_awake (K : Nat)  : Option Bool := (text_Parse K (⟨#[91, 120, 32, 58, 61, 32, 49, 32, 59, 32, 63, 120, 32, 62, 32, 121, 93, 120, 32, 62, 61, 32, 49]⟩ : ByteArray) (2 : Int)).bind fun r1 =>
 (text_Print K r1.1).bind fun r3 =>
 if (r1.2.2 == (0 : Int)) then
  if (r1.2.1 == (0 : Int)) then
   if (r3.2 == (0 : Int)) then
    if (r1.1.op == (35 : Int)) then
     some (r3.1.toList == (⟨#[91, 123, 120, 32, 58, 61, 32, 49, 32, 59, 32, 63, 120, 32, 62, 32, 121, 125, 93, 120, 32, 62, 61, 32, 49]⟩ : ByteArray).toList)
    else
     some false
   else
    some false
  else
   some false
 else
  some false
set_option maxHeartbeats 4000000 in
theorem law09_awake_ok {K : Nat}  {r : Bool} (h : law09_awake K  = some r) : Cn Tryz.prog 6 [] (.d (.val (.bool r))) := by
 refine Cn.oz Tryz.func6 Tryz.call6 Tryz.ntmps6 Tryz.results6 fun hfit => ?_
 unfold law09_awake at h
 refine AW.kr [] [] ?_
 refine AW.kr [] [] ?_
 refine cm h text_Parse_ok fun r1 hx2 h => ?_
 refine AW.kr [5] [1, 2, 3] ?_
 refine cm h text_Print_ok fun r3 hx4 h => ?_
 refine AW.kr [0] [1, 2, 3, 4, 5] ?_
 refine sK h (fun hb5 h => ?_) fun hb5 h => ?_
 ·refine sK h (fun hb6 h => ?_) fun hb6 h => ?_
  ·refine sK h (fun hb7 h => ?_) fun hb7 h => ?_
   ·refine sK h (fun hb8 h => ?_) fun hb8 h => ?_
    ·refine AW.ret ?_
     cases h; refine nz ?_; exact .same _
    refine AW.ret ?_
    cases h; refine nz ?_; exact .same _
   refine AW.ret ?_
   cases h; refine nz ?_; exact .same _
  refine AW.ret ?_
  cases h; refine nz ?_; exact .same _
 refine AW.ret ?_
 cases h; refine nz ?_; exact .same _
/-! ### isochrone/isochroneref08.Size -/
def r08_Size_body (K : Nat) (self7 : NodeA → Option Int) (p0 : NodeA) : Option Int := ((iter (S := Int × Int) (R := Int) K (fun again (i1_0, i1_1) =>
  if (decide (i1_1 < (p0.kids.length : Int))) then
   (idx p0.kids i1_1).bind fun x6 =>
   (self7 (x6)).bind fun r8 =>
   again (IntKind.wrap .i64 (i1_0 + r8), IntKind.wrap .i64 (i1_1 + (1 : Int)))
  else
   some i1_0) ((1 : Int), (0 : Int))) : Option Int).bind (fun e2_0 =>
 some e2_0)
set_option maxHeartbeats 4000000 in
theorem r08_Size_step (K : Nat) (self7 : NodeA → Option Int) (hself7 : ∀ (q : NodeA) (r : Int), self7 q = some r → Cn Tryz.prog 7 [aggV q.enc] (.d (.val (.int .i64 r)))) (p0 : NodeA) (r : Int) (h : r08_Size_body K self7 p0 = some r) : Cn Tryz.prog 7 [aggV p0.enc] (.d (.val (.int .i64 r))) := by
 refine Cn.oz Tryz.func7 Tryz.call7 Tryz.ntmps7 Tryz.results7 fun hfit => ?_
 unfold r08_Size_body at h
 refine AW.kr [] [0] ?_
 refine AW.kr [0] [1] ?_
 refine AW.ks [0] [1, 3] ?_
 refine AW.one ?_
 refine AW.ro ?_
 refine AW.ks [0] [1, 3, 4] ?_
 refine AW.lm h (fun e2_0 => [(3, vI e2_0)]) (fun e2_0 => []) (fun (i1_0, i1_1) => [(1, .ptr 0 6 0 0), (3, vI i1_0), (4, vI i1_1)]) (fun (i1_0, i1_1) => [vE p0.enc]) [0] (fun oJ4 again ⟨i1_0, i1_1⟩ h => ?_) fun e2_0 h => ?_
 ·try dsimp only at h
  refine AW.one ?_
  refine AW.ro ?_
  refine AW.ks [0] [1, 3, 4, 9] ?_
  refine AW.tt h (fun hb5 h => ?_) fun hb5 h => ?_
  ·refine AW.sk ?_
   refine AW.ks [0] [1, 3, 4] ?_
   refine AW.one ?_
   refine AW.block ?_
   refine AW.rp ?_
   refine bx h fun x6 h0 h1 h => ?_
   refine cm h (hself7 _ _) fun r8 hx9 h => ?_
   refine AW.ks [0] [1, 3, 4] ?_
   refine AW.rp ?_
   exact na [0] h
  refine AW.ex ?_
  exact ja [] h
 refine AW.kr [] [3] ?_
 refine AW.ret ?_
 cases h; refine nz ?_; exact .same _
def r08_Size (K : Nat) (p0 : NodeA) : Option Int := iter K (fun self q => r08_Size_body K self q) p0
theorem key_r08_Size {K : Nat} (k : Nat) : (∀ (q : NodeA) (r : Int), iter k (fun self q => r08_Size_body K self q) q = some r → Cn Tryz.prog 7 [aggV q.enc] (.d (.val (.int .i64 r)))) := by
 induction k with
 | zero => exact fun q r h => by cases h
 | succ k ih => exact fun q r h => r08_Size_step K _ ih q r h
theorem r08_Size_ok {K : Nat} {p0 : NodeA} {r : Int} (h : r08_Size K p0 = some r) : Cn Tryz.prog 7 [aggV p0.enc] (.d (.val (.int .i64 r))) := (key_r08_Size K) p0 r h
/-! ### isochrone/isochroneref08.Levels -/
def r08_Levels_body (K : Nat) (self31 : NodeA → Option Int) (p0 : NodeA) : Option Int := ((iter (S := Int × Int) (R := Int) K (fun again (i1_0, i1_1) =>
  if (decide (i1_1 < (p0.kids.length : Int))) then
   (idx p0.kids i1_1).bind fun x6 =>
   (self31 (x6)).bind fun r8 =>
   again ((if r8 > i1_0 then r8 else i1_0), IntKind.wrap .i64 (i1_1 + (1 : Int)))
  else
   some i1_0) ((0 : Int), (0 : Int))) : Option Int).bind (fun e2_0 =>
 some (IntKind.wrap .i64 (e2_0 + (1 : Int))))
set_option maxHeartbeats 4000000 in
theorem r08_Levels_step (K : Nat) (self31 : NodeA → Option Int) (hself31 : ∀ (q : NodeA) (r : Int), self31 q = some r → Cn Tryz.prog 31 [aggV q.enc] (.d (.val (.int .i64 r)))) (p0 : NodeA) (r : Int) (h : r08_Levels_body K self31 p0 = some r) : Cn Tryz.prog 31 [aggV p0.enc] (.d (.val (.int .i64 r))) := by
 refine Cn.oz Tryz.func31 Tryz.call31 Tryz.ntmps31 Tryz.results31 fun hfit => ?_
 unfold r08_Levels_body at h
 refine AW.kr [] [0] ?_
 refine AW.kr [0] [1] ?_
 refine AW.ks [0] [1, 3] ?_
 refine AW.one ?_
 refine AW.ro ?_
 refine AW.ks [0] [1, 3, 4] ?_
 refine AW.lm h (fun e2_0 => [(3, vI e2_0)]) (fun e2_0 => []) (fun (i1_0, i1_1) => [(1, .ptr 0 6 0 0), (3, vI i1_0), (4, vI i1_1)]) (fun (i1_0, i1_1) => [vE p0.enc]) [0] (fun oJ4 again ⟨i1_0, i1_1⟩ h => ?_) fun e2_0 h => ?_
 ·try dsimp only at h
  refine AW.one ?_
  refine AW.ro ?_
  refine AW.ks [0] [1, 3, 4, 9] ?_
  refine AW.tt h (fun hb5 h => ?_) fun hb5 h => ?_
  ·refine AW.sk ?_
   refine AW.ks [0] [1, 3, 4] ?_
   refine AW.one ?_
   refine AW.block ?_
   refine AW.rp ?_
   refine bx h fun x6 h0 h1 h => ?_
   refine cm h (hself31 _ _) fun r8 hx9 h => ?_
   refine AW.ks [0] [1, 3, 4] ?_
   refine AW.rp ?_
   exact na [0] h
  refine AW.ex ?_
  exact ja [] h
 refine AW.kr [] [3] ?_
 refine AW.ret ?_
 cases h; refine nz ?_; exact .same _
def r08_Levels (K : Nat) (p0 : NodeA) : Option Int := iter K (fun self q => r08_Levels_body K self q) p0
theorem key_r08_Levels {K : Nat} (k : Nat) : (∀ (q : NodeA) (r : Int), iter k (fun self q => r08_Levels_body K self q) q = some r → Cn Tryz.prog 31 [aggV q.enc] (.d (.val (.int .i64 r)))) := by
 induction k with
 | zero => exact fun q r h => by cases h
 | succ k ih => exact fun q r h => r08_Levels_step K _ ih q r h
theorem r08_Levels_ok {K : Nat} {p0 : NodeA} {r : Int} (h : r08_Levels K p0 = some r) : Cn Tryz.prog 31 [aggV p0.enc] (.d (.val (.int .i64 r))) := (key_r08_Levels K) p0 r h
/-! ### isochrone/isochroneref08.Sort -/
def r08_Sort (K : Nat) (p0 : Int) : Option Int := ((
  if (decide ((1 : Int) ≤ p0)) then
   some (decide (p0 ≤ (13 : Int)))
  else
   some false) : Option Bool).bind (fun v1_0 =>
 if v1_0 then
  some (1 : Int)
 else
  ((
   if (decide ((20 : Int) ≤ p0)) then
    some (decide (p0 ≤ (39 : Int)))
   else
    some false) : Option Bool).bind (fun v5_0 =>
  if v5_0 then
   some (2 : Int)
  else
   ((
    if (p0 == (55 : Int)) then
     some true
    else
     some (p0 == (56 : Int))) : Option Bool).bind (fun v9_0 =>
   if v9_0 then
    some (4 : Int)
   else
    ((
     if (decide ((50 : Int) ≤ p0)) then
      some (decide (p0 ≤ (62 : Int)))
     else
      some false) : Option Bool).bind (fun v13_0 =>
    if v13_0 then
     some (3 : Int)
    else
     some (0 : Int)))))
set_option maxHeartbeats 4000000 in
theorem r08_Sort_ok {K : Nat} {p0 : Int} {r : Int} (h : r08_Sort K p0 = some r) : Cn Tryz.prog 18 [.d (.val (.int .i64 p0))] (.d (.val (.int .i64 r))) := by
 refine Cn.oz Tryz.func18 Tryz.call18 Tryz.ntmps18 Tryz.results18 fun hfit => ?_
 unfold r08_Sort at h
 refine AW.kr [] [0] ?_
 refine AW.ks [] [0] ?_
 refine AW.one ?_
 refine AW.block ?_
 refine AW.jn h (fun v1_0 => [(0, vI p0), (3, vB v1_0)]) (fun v1_0 => []) (fun oJ2 h => ?_) fun v1_0 h => ?_
 ·refine AW.rp ?_
  refine sK h (fun hb3 h => ?_) fun hb3 h => ?_
  ·exact ja [] h
  exact ja [] h
 refine AW.tt h (fun hb4 h => ?_) fun hb4 h => ?_
 ·refine AW.ro ?_
  refine AW.ret ?_
  cases h; refine nz ?_; exact .same _
 refine AW.jn h (fun v5_0 => [(0, vI p0), (10, vB v5_0)]) (fun v5_0 => []) (fun oJ6 h => ?_) fun v5_0 h => ?_
 ·refine AW.rp ?_
  refine sK h (fun hb7 h => ?_) fun hb7 h => ?_
  ·exact ja [] h
  exact ja [] h
 refine AW.tt h (fun hb8 h => ?_) fun hb8 h => ?_
 ·refine AW.ro ?_
  refine AW.ret ?_
  cases h; refine nz ?_; exact .same _
 refine AW.jn h (fun v9_0 => [(0, vI p0), (17, vB v9_0)]) (fun v9_0 => []) (fun oJ10 h => ?_) fun v9_0 h => ?_
 ·refine AW.rp ?_
  refine sK h (fun hb11 h => ?_) fun hb11 h => ?_
  ·exact ja [] h
  exact ja [] h
 refine AW.tt h (fun hb12 h => ?_) fun hb12 h => ?_
 ·refine AW.ro ?_
  refine AW.ret ?_
  cases h; refine nz ?_; exact .same _
 refine AW.jn h (fun v13_0 => [(24, vB v13_0)]) (fun v13_0 => []) (fun oJ14 h => ?_) fun v13_0 h => ?_
 ·refine AW.rp ?_
  refine sK h (fun hb15 h => ?_) fun hb15 h => ?_
  ·exact ja [] h
  exact ja [] h
 refine AW.tk h (fun hb16 h => ?_) fun hb16 h => ?_
 ·refine AW.ro ?_
  refine AW.ret ?_
  cases h; refine nz ?_; exact .same _
 refine AW.kr [] [] ?_
 refine AW.ret ?_
 cases h; refine nz ?_; exact .same _
/-! ### isochrone/isochroneref08.letter -/
def r08_letter (K : Nat) (p0 : Int) : Option Bool := if (decide ((97 : Int) ≤ p0)) then
  if (decide (p0 ≤ (122 : Int))) then
   some true
  else
   if (decide ((65 : Int) ≤ p0)) then
    some (decide (p0 ≤ (90 : Int)))
   else
    some false
 else
  if (decide ((65 : Int) ≤ p0)) then
   some (decide (p0 ≤ (90 : Int)))
  else
   some false
set_option maxHeartbeats 4000000 in
theorem r08_letter_ok {K : Nat} {p0 : Int} {r : Bool} (h : r08_letter K p0 = some r) : Cn Tryz.prog 91 [.d (.val (.int .u8 p0))] (.d (.val (.bool r))) := by
 refine Cn.oz Tryz.func91 Tryz.call91 Tryz.ntmps91 Tryz.results91 fun hfit => ?_
 unfold r08_letter at h
 refine AW.kr [] [0] ?_
 refine AW.kr [] [0] ?_
 refine sK h (fun hb1 h => ?_) fun hb1 h => ?_
 ·refine sK h (fun hb2 h => ?_) fun hb2 h => ?_
  ·refine AW.ret ?_
   cases h; refine nz ?_; exact .same _
  refine sK h (fun hb3 h => ?_) fun hb3 h => ?_
  ·refine AW.ret ?_
   cases h; refine nz ?_; exact .same _
  refine AW.ret ?_
  cases h; refine nz ?_; exact .same _
 refine sK h (fun hb4 h => ?_) fun hb4 h => ?_
 ·refine AW.ret ?_
  cases h; refine nz ?_; exact .same _
 refine AW.ret ?_
 cases h; refine nz ?_; exact .same _
/-! ### isochrone/isochroneref08.Name -/
def r08_Name (K : Nat) (p0 : ByteArray) : Option Bool := ((
  ((
   if ((p0.size : Int) == (0 : Int)) then
    some true
   else
    if (decide ((12 : Int) < (p0.size : Int))) then
     some true
    else
     if (p0.toList == (⟨#[116, 114, 117, 101]⟩ : ByteArray).toList) then
      some true
     else
      if (p0.toList == (⟨#[102, 97, 108, 115, 101]⟩ : ByteArray).toList) then
       some true
      else
       if (p0.toList == (⟨#[102, 111, 114, 97, 108, 108]⟩ : ByteArray).toList) then
        some true
       else
        some (p0.toList == (⟨#[101, 120, 105, 115, 116, 115]⟩ : ByteArray).toList)) : Option Bool).bind (fun v3_0 =>
  if v3_0 then
   outM (
    some false)
  else
   some (.go ()))) : Option (Out Unit _)).bind (Out.fin fun _ =>
 ((iter (S := Int) (R := Out Unit _) K (fun again i11_0 =>
  if (decide (i11_0 < (p0.size : Int))) then
   ((
    ((
     (strAt p0 i11_0).bind fun c20 =>
     (r08_letter K (c20.toNat : Int)).bind fun r22 =>
     if (!r22) then
      if (i11_0 == (0 : Int)) then
       some true
      else
       if (decide ((c20.toNat : Int) < (48 : Int))) then
        some true
       else
        some (decide ((57 : Int) < (c20.toNat : Int)))
     else
      some false) : Option Bool).bind (fun v18_0 =>
    if v18_0 then
     outM (
      outM (
       some false))
    else
     some (.go ()))) : Option (Out Unit _)).bind (Out.fin fun _ =>
   again (IntKind.wrap .i64 (i11_0 + (1 : Int))))
  else
   some (.go ())) (0 : Int)) : Option (Out Unit _)).bind (Out.fin fun _ =>
 some true))
set_option maxHeartbeats 4000000 in
theorem r08_Name_ok {K : Nat} {p0 : ByteArray} {r : Bool} (h : r08_Name K p0 = some r) : Cn Tryz.prog 66 [.d (.val (.string p0))] (.d (.val (.bool r))) := by
 refine Cn.oz Tryz.func66 Tryz.call66 Tryz.ntmps66 Tryz.results66 fun hfit => ?_
 unfold r08_Name at h
 refine AW.kr [] [0] ?_
 refine AW.ks [] [0] ?_
 refine AW.jo h (fun _ => [(0, vS p0)]) (fun _ => []) (fun oJ2 h hJ2 => ?_) fun ⟨⟩ h => ?_
 ·refine AW.jn h (fun v3_0 => [(0, vS p0), (27, vB v3_0)]) (fun v3_0 => []) (fun oJ4 h => ?_) fun v3_0 h => ?_
  ·refine AW.rp ?_
   refine sK h (fun hb5 h => ?_) fun hb5 h => ?_
   ·exact ja [] h
   refine sK h (fun hb6 h => ?_) fun hb6 h => ?_
   ·exact ja [] h
   refine sK h (fun hb7 h => ?_) fun hb7 h => ?_
   ·exact ja [] h
   refine sK h (fun hb8 h => ?_) fun hb8 h => ?_
   ·exact ja [] h
   refine sK h (fun hb9 h => ?_) fun hb9 h => ?_
   ·exact ja [] h
   exact ja [] h
  refine AW.tk h (fun hb10 h => ?_) fun hb10 h => ?_
  ·refine AW.ro ?_
   refine AW.ret ?_
   have h := up h hJ2
   cases h; refine nz ?_; exact .same _
  exact jo [] h
 refine AW.one ?_
 refine AW.ro ?_
 refine AW.ks [] [0, 3] ?_
 refine AW.lp h (fun _ => []) (fun _ => []) (fun i11_0 => [(0, vS p0), (3, vI i11_0)]) (fun i11_0 => []) [] (fun oJ14 hJ14 again i11_0 h => ?_) fun ⟨⟩ h => ?_
 ·refine AW.one ?_
  refine AW.ro ?_
  refine AW.ks [] [0, 3, 31] ?_
  refine AW.tt h (fun hb15 h => ?_) fun hb15 h => ?_
  ·refine AW.sk ?_
   refine AW.ks [] [0, 3] ?_
   refine AW.jo h (fun _ => [(0, vS p0), (3, vI i11_0)]) (fun _ => []) (fun oJ17 h hJ17 => ?_) fun ⟨⟩ h => ?_
   ·refine AW.block ?_
    refine AW.jn h (fun v18_0 => [(0, vS p0), (3, vI i11_0), (54, vB v18_0)]) (fun v18_0 => []) (fun oJ19 h => ?_) fun v18_0 h => ?_
    ·refine AW.rp ?_
     refine bb h fun c20 hx21 h => ?_
     refine cm h r08_letter_ok fun r22 hx23 h => ?_
     refine sK h (fun hb24 h => ?_) fun hb24 h => ?_
     ·refine sK h (fun hb25 h => ?_) fun hb25 h => ?_
      ·exact ja [] h
      refine sK h (fun hb26 h => ?_) fun hb26 h => ?_
      ·exact ja [] h
      exact ja [] h
     exact ja [] h
    refine AW.tk h (fun hb27 h => ?_) fun hb27 h => ?_
    ·refine AW.ro ?_
     refine AW.ret ?_
     have h := up h hJ17
     have h := up h hJ14
     cases h; refine nz ?_; exact .same _
    exact jo [] h
   refine AW.rp ?_
   exact na [] h
  refine AW.ex ?_
  exact jo [] h
 refine AW.kr [] [] ?_
 refine AW.ret ?_
 cases h; refine nz ?_; exact .same _
/-! ### isochrone/isochroneref08.Natural -/
def r08_Natural (K : Nat) (p0 : RatA) (p1 : Int) : Option Int := if ((p0.num.length : Int) == (0 : Int)) then
  some (0 : Int)
 else
  ((
   ((
    if (decide ((1 : Int) < (p0.num.length : Int))) then
     some true
    else
     (idx p0.num (0 : Int)).bind fun x7 =>
     some (decide (p1 < (IntKind.wrap .i64 x7)))) : Option Bool).bind (fun v4_0 =>
   if v4_0 then
    outM (
     some (-1 : Int))
   else
    some (.go ()))) : Option (Out Unit _)).bind (Out.fin fun _ =>
  (idx p0.num (0 : Int)).bind fun x10 =>
  some (IntKind.wrap .i64 x10))
set_option maxHeartbeats 4000000 in
theorem r08_Natural_ok {K : Nat} {p0 : RatA} {p1 : Int} {r : Int} (h : r08_Natural K p0 p1 = some r) : Cn Tryz.prog 70 [aggV p0.enc, .d (.val (.int .i64 p1))] (.d (.val (.int .i64 r))) := by
 have q0 := fun k z => cv_int (k' := k) (z := z) Tryz.underlying86 Tryz.underlying2
 have q1 := fun k z => cv_int (k' := k) (z := z) Tryz.underlying86 Tryz.underlying3
 refine Cn.oz Tryz.func70 Tryz.call70 Tryz.ntmps70 Tryz.results70 fun hfit => ?_
 unfold r08_Natural at h
 refine AW.kr [] [0, 1] ?_
 refine AW.ks [0] [1, 2] ?_
 refine AW.one ?_
 refine AW.ro ?_
 refine AW.ks [0] [1, 2, 8] ?_
 refine AW.tk h (fun hb1 h => ?_) fun hb1 h => ?_
 ·refine AW.ro ?_
  refine AW.ret ?_
  cases h; refine nz ?_; exact .same _
 refine AW.ks [0] [1, 2] ?_
 refine AW.jo h (fun _ => [(2, .ptr 0 3 0 0)]) (fun _ => [vE p0.enc]) (fun oJ3 h hJ3 => ?_) fun ⟨⟩ h => ?_
 ·refine AW.jn h (fun v4_0 => [(2, .ptr 0 3 0 0), (21, vB v4_0)]) (fun v4_0 => [vE p0.enc]) (fun oJ5 h => ?_) fun v4_0 h => ?_
  ·refine AW.rp ?_
   refine sK h (fun hb6 h => ?_) fun hb6 h => ?_
   ·exact ja [0] h
   refine bx h fun x7 h0 h1 h => ?_
   exact ja [0] h
  refine AW.tk h (fun hb9 h => ?_) fun hb9 h => ?_
  ·refine AW.ro ?_
   refine AW.ret ?_
   have h := up h hJ3
   cases h; refine nz ?_; exact .same _
  exact jo [0] h
 refine AW.ro ?_
 refine bx h fun x10 h0 h1 h => ?_
 refine AW.ret ?_
 cases h; refine nz ?_; exact .same _
/-! ### isochrone/isochroneref08.differential -/
def r08_differential_body (K : Nat) (self71 : NodeA → Option Bool) (p0 : NodeA) : Option Bool := ((
  if (p0.op == (20 : Int)) then
   some true
  else
   if (p0.op == (21 : Int)) then
    some true
   else
    if (decide ((22 : Int) ≤ p0.op)) then
     if (decide (p0.op ≤ (27 : Int))) then
      some true
     else
      if (p0.op == (37 : Int)) then
       some true
      else
       some (p0.op == (38 : Int))
    else
     if (p0.op == (37 : Int)) then
      some true
     else
      some (p0.op == (38 : Int))) : Option Bool).bind (fun v1_0 =>
 if v1_0 then
  some true
 else
  ((
   if (p0.op == (29 : Int)) then
    some true
   else
    some (p0.op == (30 : Int))) : Option Bool).bind (fun v10_0 =>
  if v10_0 then
   ((iter (S := Int) (R := Out Unit _) K (fun again i14_0 =>
    if (decide (i14_0 < (p0.kids.length : Int))) then
     (idx p0.kids i14_0).bind fun x19 =>
     (self71 (x19)).bind fun r21 =>
     if (!r21) then
      outM (
       some false)
     else
      again (IntKind.wrap .i64 (i14_0 + (1 : Int)))
    else
     some (.go ())) (0 : Int)) : Option (Out Unit _)).bind (Out.fin fun _ =>
   some true)
  else
   some false))
set_option maxHeartbeats 4000000 in
theorem r08_differential_step (K : Nat) (self71 : NodeA → Option Bool) (hself71 : ∀ (q : NodeA) (r : Bool), self71 q = some r → Cn Tryz.prog 71 [aggV q.enc] (.d (.val (.bool r)))) (p0 : NodeA) (r : Bool) (h : r08_differential_body K self71 p0 = some r) : Cn Tryz.prog 71 [aggV p0.enc] (.d (.val (.bool r))) := by
 refine Cn.oz Tryz.func71 Tryz.call71 Tryz.ntmps71 Tryz.results71 fun hfit => ?_
 unfold r08_differential_body at h
 refine AW.kr [] [0] ?_
 refine AW.ks [0] [1] ?_
 refine AW.one ?_
 refine AW.block ?_
 refine AW.jn h (fun v1_0 => [(1, .ptr 0 6 0 0), (4, vB v1_0)]) (fun v1_0 => [vE p0.enc]) (fun oJ2 h => ?_) fun v1_0 h => ?_
 ·refine AW.rp ?_
  refine sK h (fun hb3 h => ?_) fun hb3 h => ?_
  ·exact ja [0] h
  refine sK h (fun hb4 h => ?_) fun hb4 h => ?_
  ·exact ja [0] h
  refine sK h (fun hb5 h => ?_) fun hb5 h => ?_
  ·refine sK h (fun hb6 h => ?_) fun hb6 h => ?_
   ·exact ja [0] h
   refine sK h (fun hb7 h => ?_) fun hb7 h => ?_
   ·exact ja [0] h
   exact ja [0] h
  refine sK h (fun hb8 h => ?_) fun hb8 h => ?_
  ·exact ja [0] h
  exact ja [0] h
 refine AW.tt h (fun hb9 h => ?_) fun hb9 h => ?_
 ·refine AW.ro ?_
  refine AW.ret ?_
  cases h; refine nz ?_; exact .same _
 refine AW.jn h (fun v10_0 => [(1, .ptr 0 6 0 0), (33, vB v10_0)]) (fun v10_0 => [vE p0.enc]) (fun oJ11 h => ?_) fun v10_0 h => ?_
 ·refine AW.rp ?_
  refine sK h (fun hb12 h => ?_) fun hb12 h => ?_
  ·exact ja [0] h
  exact ja [0] h
 refine AW.tk h (fun hb13 h => ?_) fun hb13 h => ?_
 ·refine AW.one ?_
  refine AW.ro ?_
  refine AW.ks [0] [1, 3] ?_
  refine AW.lp h (fun _ => []) (fun _ => []) (fun i14_0 => [(1, .ptr 0 6 0 0), (3, vI i14_0)]) (fun i14_0 => [vE p0.enc]) [0] (fun oJ17 hJ17 again i14_0 h => ?_) fun ⟨⟩ h => ?_
  ·refine AW.one ?_
   refine AW.ro ?_
   refine AW.ks [0] [1, 3, 46] ?_
   refine AW.tt h (fun hb18 h => ?_) fun hb18 h => ?_
   ·refine AW.sk ?_
    refine AW.ks [0] [1, 3] ?_
    refine AW.one ?_
    refine AW.block ?_
    refine AW.ro ?_
    refine bx h fun x19 h0 h1 h => ?_
    refine cm h (hself71 _ _) fun r21 hx22 h => ?_
    refine AW.ks [0] [1, 3, 55] ?_
    refine AW.tk h (fun hb23 h => ?_) fun hb23 h => ?_
    ·refine AW.ro ?_
     refine AW.ret ?_
     have h := up h hJ17
     cases h; refine nz ?_; exact .same _
    refine AW.ks [0] [1, 3] ?_
    refine AW.rp ?_
    exact na [0] h
   refine AW.ex ?_
   exact jo [] h
  refine AW.kr [] [] ?_
  refine AW.ret ?_
  cases h; refine nz ?_; exact .same _
 refine AW.kr [] [] ?_
 refine AW.ret ?_
 cases h; refine nz ?_; exact .same _
def r08_differential (K : Nat) (p0 : NodeA) : Option Bool := iter K (fun self q => r08_differential_body K self q) p0
theorem key_r08_differential {K : Nat} (k : Nat) : (∀ (q : NodeA) (r : Bool), iter k (fun self q => r08_differential_body K self q) q = some r → Cn Tryz.prog 71 [aggV q.enc] (.d (.val (.bool r)))) := by
 induction k with
 | zero => exact fun q r h => by cases h
 | succ k ih => exact fun q r h => r08_differential_step K _ ih q r h
theorem r08_differential_ok {K : Nat} {p0 : NodeA} {r : Bool} (h : r08_differential K p0 = some r) : Cn Tryz.prog 71 [aggV p0.enc] (.d (.val (.bool r))) := (key_r08_differential K) p0 r h
/-! ### isochrone/isochroneref08.kids -/
def r08_kids (K : Nat) (p0 : Int) : Option ByteArray := ((
  if (p0 == (4 : Int)) then
   some (p0 == (4 : Int))
  else
   if (p0 == (12 : Int)) then
    some (p0 == (12 : Int))
   else
    if (p0 == (50 : Int)) then
     some (p0 == (50 : Int))
    else
     if (p0 == (51 : Int)) then
      some (p0 == (51 : Int))
     else
      some (p0 == (55 : Int))) : Option Bool).bind (fun v1_0 =>
 if v1_0 then
  some (⟨#[49]⟩ : ByteArray)
 else
  ((
   if (p0 == (5 : Int)) then
    some (p0 == (5 : Int))
   else
    if (p0 == (6 : Int)) then
     some (p0 == (6 : Int))
    else
     if (p0 == (7 : Int)) then
      some (p0 == (7 : Int))
     else
      if (p0 == (8 : Int)) then
       some (p0 == (8 : Int))
      else
       if (p0 == (9 : Int)) then
        some (p0 == (9 : Int))
       else
        if (p0 == (22 : Int)) then
         some (p0 == (22 : Int))
        else
         if (p0 == (23 : Int)) then
          some (p0 == (23 : Int))
         else
          if (p0 == (24 : Int)) then
           some (p0 == (24 : Int))
          else
           if (p0 == (25 : Int)) then
            some (p0 == (25 : Int))
           else
            if (p0 == (26 : Int)) then
             some (p0 == (26 : Int))
            else
             some (p0 == (27 : Int))) : Option Bool).bind (fun v8_0 =>
  if v8_0 then
   some (⟨#[49, 49]⟩ : ByteArray)
  else
   ((
    if (p0 == (28 : Int)) then
     some (p0 == (28 : Int))
    else
     if (p0 == (33 : Int)) then
      some (p0 == (33 : Int))
     else
      if (p0 == (34 : Int)) then
       some (p0 == (34 : Int))
      else
       if (p0 == (39 : Int)) then
        some (p0 == (39 : Int))
       else
        some (p0 == (53 : Int))) : Option Bool).bind (fun v21_0 =>
   if v21_0 then
    some (⟨#[50]⟩ : ByteArray)
   else
    ((
     if (p0 == (29 : Int)) then
      some (p0 == (29 : Int))
     else
      if (p0 == (30 : Int)) then
       some (p0 == (30 : Int))
      else
       if (p0 == (31 : Int)) then
        some (p0 == (31 : Int))
       else
        some (p0 == (32 : Int))) : Option Bool).bind (fun v28_0 =>
    if v28_0 then
     some (⟨#[50, 50]⟩ : ByteArray)
    else
     ((
      if (p0 == (35 : Int)) then
       some (p0 == (35 : Int))
      else
       some (p0 == (36 : Int))) : Option Bool).bind (fun v34_0 =>
     if v34_0 then
      some (⟨#[51, 50]⟩ : ByteArray)
     else
      ((
       if (p0 == (57 : Int)) then
        some (p0 == (57 : Int))
       else
        some (p0 == (58 : Int))) : Option Bool).bind (fun v38_0 =>
      if v38_0 then
       some (⟨#[51, 51]⟩ : ByteArray)
      else
       ((
        if (p0 == (59 : Int)) then
         some (p0 == (59 : Int))
        else
         some (p0 == (60 : Int))) : Option Bool).bind (fun v42_0 =>
       if v42_0 then
        some (⟨#[51]⟩ : ByteArray)
       else
        some (⟨#[]⟩ : ByteArray))))))))
set_option maxHeartbeats 4000000 in
theorem r08_kids_ok {K : Nat} {p0 : Int} {r : ByteArray} (h : r08_kids K p0 = some r) : Cn Tryz.prog 69 [.d (.val (.int .i64 p0))] (.d (.val (.string r))) := by
 refine Cn.oz Tryz.func69 Tryz.call69 Tryz.ntmps69 Tryz.results69 fun hfit => ?_
 unfold r08_kids at h
 refine AW.kr [] [0] ?_
 refine AW.ks [] [0] ?_
 refine AW.one ?_
 refine AW.ro ?_
 refine AW.ks [] [3] ?_
 refine AW.block ?_
 refine AW.jn h (fun v1_0 => [(3, vI p0), (4, vB v1_0)]) (fun v1_0 => []) (fun oJ2 h => ?_) fun v1_0 h => ?_
 ·refine AW.ro ?_
  refine AW.ks [] [3, 4] ?_
  refine AW.tt h (fun hb3 h => ?_) fun hb3 h => ?_
  ·refine AW.sk ?_
   exact ja [] h
  refine AW.ro ?_
  refine AW.ks [] [3, 4] ?_
  refine AW.tt h (fun hb4 h => ?_) fun hb4 h => ?_
  ·refine AW.sk ?_
   exact ja [] h
  refine AW.ro ?_
  refine AW.ks [] [3, 4] ?_
  refine AW.tt h (fun hb5 h => ?_) fun hb5 h => ?_
  ·refine AW.sk ?_
   exact ja [] h
  refine AW.ro ?_
  refine AW.ks [] [3, 4] ?_
  refine AW.tt h (fun hb6 h => ?_) fun hb6 h => ?_
  ·refine AW.sk ?_
   exact ja [] h
  refine AW.rp ?_
  exact ja [] h
 refine AW.tt h (fun hb7 h => ?_) fun hb7 h => ?_
 ·refine AW.ro ?_
  refine AW.ret ?_
  cases h; refine nz ?_; exact .same _
 refine AW.jn h (fun v8_0 => [(3, vI p0), (10, vB v8_0)]) (fun v8_0 => []) (fun oJ9 h => ?_) fun v8_0 h => ?_
 ·refine AW.ro ?_
  refine AW.ks [] [3, 10] ?_
  refine AW.tt h (fun hb10 h => ?_) fun hb10 h => ?_
  ·refine AW.sk ?_
   exact ja [] h
  refine AW.ro ?_
  refine AW.ks [] [3, 10] ?_
  refine AW.tt h (fun hb11 h => ?_) fun hb11 h => ?_
  ·refine AW.sk ?_
   exact ja [] h
  refine AW.ro ?_
  refine AW.ks [] [3, 10] ?_
  refine AW.tt h (fun hb12 h => ?_) fun hb12 h => ?_
  ·refine AW.sk ?_
   exact ja [] h
  refine AW.ro ?_
  refine AW.ks [] [3, 10] ?_
  refine AW.tt h (fun hb13 h => ?_) fun hb13 h => ?_
  ·refine AW.sk ?_
   exact ja [] h
  refine AW.ro ?_
  refine AW.ks [] [3, 10] ?_
  refine AW.tt h (fun hb14 h => ?_) fun hb14 h => ?_
  ·refine AW.sk ?_
   exact ja [] h
  refine AW.ro ?_
  refine AW.ks [] [3, 10] ?_
  refine AW.tt h (fun hb15 h => ?_) fun hb15 h => ?_
  ·refine AW.sk ?_
   exact ja [] h
  refine AW.ro ?_
  refine AW.ks [] [3, 10] ?_
  refine AW.tt h (fun hb16 h => ?_) fun hb16 h => ?_
  ·refine AW.sk ?_
   exact ja [] h
  refine AW.ro ?_
  refine AW.ks [] [3, 10] ?_
  refine AW.tt h (fun hb17 h => ?_) fun hb17 h => ?_
  ·refine AW.sk ?_
   exact ja [] h
  refine AW.ro ?_
  refine AW.ks [] [3, 10] ?_
  refine AW.tt h (fun hb18 h => ?_) fun hb18 h => ?_
  ·refine AW.sk ?_
   exact ja [] h
  refine AW.ro ?_
  refine AW.ks [] [3, 10] ?_
  refine AW.tt h (fun hb19 h => ?_) fun hb19 h => ?_
  ·refine AW.sk ?_
   exact ja [] h
  refine AW.rp ?_
  exact ja [] h
 refine AW.tt h (fun hb20 h => ?_) fun hb20 h => ?_
 ·refine AW.ro ?_
  refine AW.ret ?_
  cases h; refine nz ?_; exact .same _
 refine AW.jn h (fun v21_0 => [(3, vI p0), (22, vB v21_0)]) (fun v21_0 => []) (fun oJ22 h => ?_) fun v21_0 h => ?_
 ·refine AW.ro ?_
  refine AW.ks [] [3, 22] ?_
  refine AW.tt h (fun hb23 h => ?_) fun hb23 h => ?_
  ·refine AW.sk ?_
   exact ja [] h
  refine AW.ro ?_
  refine AW.ks [] [3, 22] ?_
  refine AW.tt h (fun hb24 h => ?_) fun hb24 h => ?_
  ·refine AW.sk ?_
   exact ja [] h
  refine AW.ro ?_
  refine AW.ks [] [3, 22] ?_
  refine AW.tt h (fun hb25 h => ?_) fun hb25 h => ?_
  ·refine AW.sk ?_
   exact ja [] h
  refine AW.ro ?_
  refine AW.ks [] [3, 22] ?_
  refine AW.tt h (fun hb26 h => ?_) fun hb26 h => ?_
  ·refine AW.sk ?_
   exact ja [] h
  refine AW.rp ?_
  exact ja [] h
 refine AW.tt h (fun hb27 h => ?_) fun hb27 h => ?_
 ·refine AW.ro ?_
  refine AW.ret ?_
  cases h; refine nz ?_; exact .same _
 refine AW.jn h (fun v28_0 => [(3, vI p0), (28, vB v28_0)]) (fun v28_0 => []) (fun oJ29 h => ?_) fun v28_0 h => ?_
 ·refine AW.ro ?_
  refine AW.ks [] [3, 28] ?_
  refine AW.tt h (fun hb30 h => ?_) fun hb30 h => ?_
  ·refine AW.sk ?_
   exact ja [] h
  refine AW.ro ?_
  refine AW.ks [] [3, 28] ?_
  refine AW.tt h (fun hb31 h => ?_) fun hb31 h => ?_
  ·refine AW.sk ?_
   exact ja [] h
  refine AW.ro ?_
  refine AW.ks [] [3, 28] ?_
  refine AW.tt h (fun hb32 h => ?_) fun hb32 h => ?_
  ·refine AW.sk ?_
   exact ja [] h
  refine AW.rp ?_
  exact ja [] h
 refine AW.tt h (fun hb33 h => ?_) fun hb33 h => ?_
 ·refine AW.ro ?_
  refine AW.ret ?_
  cases h; refine nz ?_; exact .same _
 refine AW.jn h (fun v34_0 => [(3, vI p0), (33, vB v34_0)]) (fun v34_0 => []) (fun oJ35 h => ?_) fun v34_0 h => ?_
 ·refine AW.ro ?_
  refine AW.ks [] [3, 33] ?_
  refine AW.tt h (fun hb36 h => ?_) fun hb36 h => ?_
  ·refine AW.sk ?_
   exact ja [] h
  refine AW.rp ?_
  exact ja [] h
 refine AW.tt h (fun hb37 h => ?_) fun hb37 h => ?_
 ·refine AW.ro ?_
  refine AW.ret ?_
  cases h; refine nz ?_; exact .same _
 refine AW.jn h (fun v38_0 => [(3, vI p0), (36, vB v38_0)]) (fun v38_0 => []) (fun oJ39 h => ?_) fun v38_0 h => ?_
 ·refine AW.ro ?_
  refine AW.ks [] [3, 36] ?_
  refine AW.tt h (fun hb40 h => ?_) fun hb40 h => ?_
  ·refine AW.sk ?_
   exact ja [] h
  refine AW.rp ?_
  exact ja [] h
 refine AW.tt h (fun hb41 h => ?_) fun hb41 h => ?_
 ·refine AW.ro ?_
  refine AW.ret ?_
  cases h; refine nz ?_; exact .same _
 refine AW.jn h (fun v42_0 => [(39, vB v42_0)]) (fun v42_0 => []) (fun oJ43 h => ?_) fun v42_0 h => ?_
 ·refine AW.ro ?_
  refine AW.ks [] [3, 39] ?_
  refine AW.tt h (fun hb44 h => ?_) fun hb44 h => ?_
  ·refine AW.sk ?_
   exact ja [] h
  refine AW.rp ?_
  exact ja [] h
 refine AW.tk h (fun hb45 h => ?_) fun hb45 h => ?_
 ·refine AW.ro ?_
  refine AW.ret ?_
  cases h; refine nz ?_; exact .same _
 refine AW.kr [] [] ?_
 refine AW.ret ?_
 cases h; refine nz ?_; exact .same _
/-! ### isochrone/isochroneref08.named -/
def r08_named (K : Nat) (p0 : Int) : Option Bool := ((
  if (p0 == (2 : Int)) then
   some (p0 == (2 : Int))
  else
   if (p0 == (3 : Int)) then
    some (p0 == (3 : Int))
   else
    if (p0 == (10 : Int)) then
     some (p0 == (10 : Int))
    else
     if (p0 == (11 : Int)) then
      some (p0 == (11 : Int))
     else
      if (p0 == (33 : Int)) then
       some (p0 == (33 : Int))
      else
       if (p0 == (34 : Int)) then
        some (p0 == (34 : Int))
       else
        if (p0 == (37 : Int)) then
         some (p0 == (37 : Int))
        else
         if (p0 == (38 : Int)) then
          some (p0 == (38 : Int))
         else
          if (p0 == (50 : Int)) then
           some (p0 == (50 : Int))
          else
           if (p0 == (51 : Int)) then
            some (p0 == (51 : Int))
           else
            if (p0 == (52 : Int)) then
             some (p0 == (52 : Int))
            else
             if (p0 == (55 : Int)) then
              some (p0 == (55 : Int))
             else
              if (p0 == (56 : Int)) then
               some (p0 == (56 : Int))
              else
               if (p0 == (61 : Int)) then
                some (p0 == (61 : Int))
               else
                some (p0 == (62 : Int))) : Option Bool).bind (fun v1_0 =>
 if v1_0 then
  some true
 else
  some false)
set_option maxHeartbeats 4000000 in
theorem r08_named_ok {K : Nat} {p0 : Int} {r : Bool} (h : r08_named K p0 = some r) : Cn Tryz.prog 65 [.d (.val (.int .i64 p0))] (.d (.val (.bool r))) := by
 refine Cn.oz Tryz.func65 Tryz.call65 Tryz.ntmps65 Tryz.results65 fun hfit => ?_
 unfold r08_named at h
 refine AW.kr [] [0] ?_
 refine AW.ks [] [0] ?_
 refine AW.one ?_
 refine AW.ro ?_
 refine AW.ks [] [3] ?_
 refine AW.block ?_
 refine AW.jn h (fun v1_0 => [(4, vB v1_0)]) (fun v1_0 => []) (fun oJ2 h => ?_) fun v1_0 h => ?_
 ·refine AW.ro ?_
  refine AW.ks [] [3, 4] ?_
  refine AW.tt h (fun hb3 h => ?_) fun hb3 h => ?_
  ·refine AW.sk ?_
   exact ja [] h
  refine AW.ro ?_
  refine AW.ks [] [3, 4] ?_
  refine AW.tt h (fun hb4 h => ?_) fun hb4 h => ?_
  ·refine AW.sk ?_
   exact ja [] h
  refine AW.ro ?_
  refine AW.ks [] [3, 4] ?_
  refine AW.tt h (fun hb5 h => ?_) fun hb5 h => ?_
  ·refine AW.sk ?_
   exact ja [] h
  refine AW.ro ?_
  refine AW.ks [] [3, 4] ?_
  refine AW.tt h (fun hb6 h => ?_) fun hb6 h => ?_
  ·refine AW.sk ?_
   exact ja [] h
  refine AW.ro ?_
  refine AW.ks [] [3, 4] ?_
  refine AW.tt h (fun hb7 h => ?_) fun hb7 h => ?_
  ·refine AW.sk ?_
   exact ja [] h
  refine AW.ro ?_
  refine AW.ks [] [3, 4] ?_
  refine AW.tt h (fun hb8 h => ?_) fun hb8 h => ?_
  ·refine AW.sk ?_
   exact ja [] h
  refine AW.ro ?_
  refine AW.ks [] [3, 4] ?_
  refine AW.tt h (fun hb9 h => ?_) fun hb9 h => ?_
  ·refine AW.sk ?_
   exact ja [] h
  refine AW.ro ?_
  refine AW.ks [] [3, 4] ?_
  refine AW.tt h (fun hb10 h => ?_) fun hb10 h => ?_
  ·refine AW.sk ?_
   exact ja [] h
  refine AW.ro ?_
  refine AW.ks [] [3, 4] ?_
  refine AW.tt h (fun hb11 h => ?_) fun hb11 h => ?_
  ·refine AW.sk ?_
   exact ja [] h
  refine AW.ro ?_
  refine AW.ks [] [3, 4] ?_
  refine AW.tt h (fun hb12 h => ?_) fun hb12 h => ?_
  ·refine AW.sk ?_
   exact ja [] h
  refine AW.ro ?_
  refine AW.ks [] [3, 4] ?_
  refine AW.tt h (fun hb13 h => ?_) fun hb13 h => ?_
  ·refine AW.sk ?_
   exact ja [] h
  refine AW.ro ?_
  refine AW.ks [] [3, 4] ?_
  refine AW.tt h (fun hb14 h => ?_) fun hb14 h => ?_
  ·refine AW.sk ?_
   exact ja [] h
  refine AW.ro ?_
  refine AW.ks [] [3, 4] ?_
  refine AW.tt h (fun hb15 h => ?_) fun hb15 h => ?_
  ·refine AW.sk ?_
   exact ja [] h
  refine AW.ro ?_
  refine AW.ks [] [3, 4] ?_
  refine AW.tt h (fun hb16 h => ?_) fun hb16 h => ?_
  ·refine AW.sk ?_
   exact ja [] h
  refine AW.rp ?_
  exact ja [] h
 refine AW.tk h (fun hb17 h => ?_) fun hb17 h => ?_
 ·refine AW.ro ?_
  refine AW.ret ?_
  cases h; refine nz ?_; exact .same _
 refine AW.kr [] [] ?_
 refine AW.ret ?_
 cases h; refine nz ?_; exact .same _
/-! ### isochrone/isochroneref08.natural -/
def r08_natural (K : Nat) (p0 : RatA) : Option Bool := ((
  ((
   if p0.neg then
    some true
   else
    if ((p0.den.length : Int) != (1 : Int)) then
     some true
    else
     (idx p0.den (0 : Int)).bind fun x7 =>
     if (x7 != (1 : Int)) then
      some true
     else
      some (decide ((20 : Int) < (p0.num.length : Int)))) : Option Bool).bind (fun v3_0 =>
  if v3_0 then
   outM (
    some false)
  else
   some (.go ()))) : Option (Out Unit _)).bind (Out.fin fun _ =>
 if ((p0.num.length : Int) == (0 : Int)) then
  some true
 else
  (idx p0.num (IntKind.wrap .i64 ((p0.num.length : Int) - (1 : Int)))).bind fun x12 =>
  some (x12 != (0 : Int)))
set_option maxHeartbeats 4000000 in
theorem r08_natural_ok {K : Nat} {p0 : RatA} {r : Bool} (h : r08_natural K p0 = some r) : Cn Tryz.prog 67 [aggV p0.enc] (.d (.val (.bool r))) := by
 refine Cn.oz Tryz.func67 Tryz.call67 Tryz.ntmps67 Tryz.results67 fun hfit => ?_
 unfold r08_natural at h
 refine AW.kr [] [0] ?_
 refine AW.ks [0] [1] ?_
 refine AW.jo h (fun _ => [(1, .ptr 0 3 0 0)]) (fun _ => [vE p0.enc]) (fun oJ2 h hJ2 => ?_) fun ⟨⟩ h => ?_
 ·refine AW.jn h (fun v3_0 => [(1, .ptr 0 3 0 0), (23, vB v3_0)]) (fun v3_0 => [vE p0.enc]) (fun oJ4 h => ?_) fun v3_0 h => ?_
  ·refine AW.rp ?_
   refine sK h (fun hb5 h => ?_) fun hb5 h => ?_
   ·exact ja [0] h
   refine sK h (fun hb6 h => ?_) fun hb6 h => ?_
   ·exact ja [0] h
   refine bx h fun x7 h0 h1 h => ?_
   refine sK h (fun hb9 h => ?_) fun hb9 h => ?_
   ·exact ja [0] h
   exact ja [0] h
  refine AW.tk h (fun hb10 h => ?_) fun hb10 h => ?_
  ·refine AW.ro ?_
   refine AW.ret ?_
   have h := up h hJ2
   cases h; refine nz ?_; exact .same _
  exact jo [0] h
 refine AW.ro ?_
 refine sK h (fun hb11 h => ?_) fun hb11 h => ?_
 ·refine AW.ret ?_
  cases h; refine nz ?_; exact .same _
 refine bx h fun x12 h0 h1 h => ?_
 refine AW.ret ?_
 cases h; refine nz ?_; exact .same _
/-! ### isochrone/isochroneref08.primed -/
def r08_primed_body (K : Nat) (self92 : NodeA → Option Bool) (p0 : NodeA) : Option Bool := ((
  ((
   if (p0.op == (3 : Int)) then
    some true
   else
    if (p0.op == (12 : Int)) then
     some true
    else
     some (p0.op == (39 : Int))) : Option Bool).bind (fun v3_0 =>
  if v3_0 then
   outM (
    some true)
  else
   some (.go ()))) : Option (Out Unit _)).bind (Out.fin fun _ =>
 ((iter (S := Int) (R := Out Unit _) K (fun again i8_0 =>
  if (decide (i8_0 < (p0.kids.length : Int))) then
   (idx p0.kids i8_0).bind fun x13 =>
   (self92 (x13)).bind fun r15 =>
   if r15 then
    outM (
     some true)
   else
    again (IntKind.wrap .i64 (i8_0 + (1 : Int)))
  else
   some (.go ())) (0 : Int)) : Option (Out Unit _)).bind (Out.fin fun _ =>
 some false))
set_option maxHeartbeats 4000000 in
theorem r08_primed_step (K : Nat) (self92 : NodeA → Option Bool) (hself92 : ∀ (q : NodeA) (r : Bool), self92 q = some r → Cn Tryz.prog 92 [aggV q.enc] (.d (.val (.bool r)))) (p0 : NodeA) (r : Bool) (h : r08_primed_body K self92 p0 = some r) : Cn Tryz.prog 92 [aggV p0.enc] (.d (.val (.bool r))) := by
 refine Cn.oz Tryz.func92 Tryz.call92 Tryz.ntmps92 Tryz.results92 fun hfit => ?_
 unfold r08_primed_body at h
 refine AW.kr [] [0] ?_
 refine AW.ks [0] [1] ?_
 refine AW.jo h (fun _ => [(1, .ptr 0 6 0 0)]) (fun _ => [vE p0.enc]) (fun oJ2 h hJ2 => ?_) fun ⟨⟩ h => ?_
 ·refine AW.jn h (fun v3_0 => [(1, .ptr 0 6 0 0), (16, vB v3_0)]) (fun v3_0 => [vE p0.enc]) (fun oJ4 h => ?_) fun v3_0 h => ?_
  ·refine AW.rp ?_
   refine sK h (fun hb5 h => ?_) fun hb5 h => ?_
   ·exact ja [0] h
   refine sK h (fun hb6 h => ?_) fun hb6 h => ?_
   ·exact ja [0] h
   exact ja [0] h
  refine AW.tk h (fun hb7 h => ?_) fun hb7 h => ?_
  ·refine AW.ro ?_
   refine AW.ret ?_
   have h := up h hJ2
   cases h; refine nz ?_; exact .same _
  exact jo [0] h
 refine AW.one ?_
 refine AW.ro ?_
 refine AW.ks [0] [1, 3] ?_
 refine AW.lp h (fun _ => []) (fun _ => []) (fun i8_0 => [(1, .ptr 0 6 0 0), (3, vI i8_0)]) (fun i8_0 => [vE p0.enc]) [0] (fun oJ11 hJ11 again i8_0 h => ?_) fun ⟨⟩ h => ?_
 ·refine AW.one ?_
  refine AW.ro ?_
  refine AW.ks [0] [1, 3, 21] ?_
  refine AW.tt h (fun hb12 h => ?_) fun hb12 h => ?_
  ·refine AW.sk ?_
   refine AW.ks [0] [1, 3] ?_
   refine AW.one ?_
   refine AW.block ?_
   refine AW.ro ?_
   refine bx h fun x13 h0 h1 h => ?_
   refine cm h (hself92 _ _) fun r15 hx16 h => ?_
   refine AW.ks [0] [1, 3, 29] ?_
   refine AW.tk h (fun hb17 h => ?_) fun hb17 h => ?_
   ·refine AW.ro ?_
    refine AW.ret ?_
    have h := up h hJ11
    cases h; refine nz ?_; exact .same _
   refine AW.ks [0] [1, 3] ?_
   refine AW.rp ?_
   exact na [0] h
  refine AW.ex ?_
  exact jo [] h
 refine AW.kr [] [] ?_
 refine AW.ret ?_
 cases h; refine nz ?_; exact .same _
def r08_primed (K : Nat) (p0 : NodeA) : Option Bool := iter K (fun self q => r08_primed_body K self q) p0
theorem key_r08_primed {K : Nat} (k : Nat) : (∀ (q : NodeA) (r : Bool), iter k (fun self q => r08_primed_body K self q) q = some r → Cn Tryz.prog 92 [aggV q.enc] (.d (.val (.bool r)))) := by
 induction k with
 | zero => exact fun q r h => by cases h
 | succ k ih => exact fun q r h => r08_primed_step K _ ih q r h
theorem r08_primed_ok {K : Nat} {p0 : NodeA} {r : Bool} (h : r08_primed K p0 = some r) : Cn Tryz.prog 92 [aggV p0.enc] (.d (.val (.bool r))) := (key_r08_primed K) p0 r h
/-! ### isochrone/isochroneref08.well -/
def r08_well_body (K : Nat) (self32 : (NodeA × Int × Bool × Bool) → Option Bool) (self68 : (NodeA × Bool × Bool) → Option Bool) (p0 : NodeA) (p1 : Int) (p2 : Bool) (p3 : Bool) : Option Bool := ((
  ((
   (r08_Sort K p0.op).bind fun r5 =>
   if (r5 != p1) then
    some true
   else
    (r08_named K p0.op).bind fun r8 =>
    (r08_Name K p0.name).bind fun r10 =>
    if (!(r8 == r10)) then
     some true
    else
     (r08_named K p0.op).bind fun r13 =>
     if (!r13) then
      some (!(p0.name.toList == (⟨#[]⟩ : ByteArray).toList))
     else
      some false) : Option Bool).bind (fun v3_0 =>
  if v3_0 then
   outM (
    some false)
  else
   some (.go ()))) : Option (Out Unit _)).bind (Out.fin fun _ =>
 ((
  if (p0.op == (1 : Int)) then
   (r08_natural K p0.num).bind fun r20 =>
   if (!r20) then
    outM (
     some false)
   else
    some (.go ())
  else
   ((
    if p0.num.neg then
     some true
    else
     if (decide ((0 : Int) < (p0.num.num.length : Int))) then
      some true
     else
      some (decide ((0 : Int) < (p0.num.den.length : Int)))) : Option Bool).bind (fun v23_0 =>
   if v23_0 then
    outM (
     some false)
   else
    some (.go ()))) : Option (Out Unit _)).bind (Out.fin fun _ =>
 ((
  ((
   if p2 then
    if (p0.op == (12 : Int)) then
     some true
    else
     some (p0.op == (3 : Int))
   else
    if p3 then
     some (p0.op == (3 : Int))
    else
     some false) : Option Bool).bind (fun v30_0 =>
  if v30_0 then
   outM (
    some false)
  else
   some (.go ()))) : Option (Out Unit _)).bind (Out.fin fun _ =>
 if (p0.op == (54 : Int)) then
  (self68 (p0, p2, p3)).bind fun r37 =>
  some r37
 else
  (r08_kids K p0.op).bind fun r39 =>
  ((
   ((
    if (p0.op == (10 : Int)) then
     some true
    else
     some (p0.op == (37 : Int))) : Option Bool).bind (fun v43_0 =>
   if v43_0 then
    if ((p0.kids.length : Int) == (1 : Int)) then
     some (⟨#[49]⟩ : ByteArray)
    else
     some r39
   else
    some r39)) : Option ByteArray).bind (fun v41_0 =>
  if ((v41_0.size : Int) != (p0.kids.length : Int)) then
   some false
  else
   ((iter (S := Int) (R := Out Unit _) K (fun again i49_0 =>
    if (decide (i49_0 < (v41_0.size : Int))) then
     ((
      ((
       (idx p0.kids i49_0).bind fun x58 =>
       (strAt v41_0 i49_0).bind fun c60 =>
       if p2 then
        if p3 then
         (self32 (x58, IntKind.wrap .i64 (IntKind.wrap .u8 ((c60.toNat : Int) - (48 : Int))), true, true)).bind fun r64 =>
         some (!r64)
        else
         (self32 (x58, IntKind.wrap .i64 (IntKind.wrap .u8 ((c60.toNat : Int) - (48 : Int))), true, (p0.op == (39 : Int)))).bind fun r66 =>
         some (!r66)
       else
        if p3 then
         (self32 (x58, IntKind.wrap .i64 (IntKind.wrap .u8 ((c60.toNat : Int) - (48 : Int))), (p0.op == (12 : Int)), true)).bind fun r69 =>
         some (!r69)
        else
         (self32 (x58, IntKind.wrap .i64 (IntKind.wrap .u8 ((c60.toNat : Int) - (48 : Int))), (p0.op == (12 : Int)), (p0.op == (39 : Int)))).bind fun r71 =>
         some (!r71)) : Option Bool).bind (fun v56_0 =>
      if v56_0 then
       outM (
        outM (
         some false))
      else
       some (.go ()))) : Option (Out Unit _)).bind (Out.fin fun _ =>
     again (IntKind.wrap .i64 (i49_0 + (1 : Int))))
    else
     some (.go ())) (0 : Int)) : Option (Out Unit _)).bind (Out.fin fun _ =>
   if (p0.op == (8 : Int)) then
    (idx p0.kids (1 : Int)).bind fun x75 =>
    if (x75.op == (1 : Int)) then
     some (decide ((0 : Int) < (x75.num.num.length : Int)))
    else
     some false
   else
    if (p0.op == (9 : Int)) then
     (idx p0.kids (1 : Int)).bind fun x79 =>
     if (x79.op == (1 : Int)) then
      (r08_Natural K x79.num (20 : Int)).bind fun r82 =>
      some (decide ((0 : Int) ≤ r82))
     else
      some false
    else
     if (p0.op == (39 : Int)) then
      (idx p0.kids (0 : Int)).bind fun x85 =>
      (r08_differential K x85).bind fun r87 =>
      some r87
     else
      some true)))))
set_option maxHeartbeats 4000000 in
theorem r08_well_step (K : Nat) (self32 : (NodeA × Int × Bool × Bool) → Option Bool) (self68 : (NodeA × Bool × Bool) → Option Bool) (hself32 : ∀ (q : NodeA × Int × Bool × Bool) (r : Bool), self32 q = some r → Cn Tryz.prog 32 [aggV q.1.enc, .d (.val (.int .i64 q.2.1)), .d (.val (.bool q.2.2.1)), .d (.val (.bool q.2.2.2))] (.d (.val (.bool r)))) (hself68 : ∀ (q : NodeA × Bool × Bool) (r : Bool), self68 q = some r → Cn Tryz.prog 68 [aggV q.1.enc, .d (.val (.bool q.2.1)), .d (.val (.bool q.2.2))] (.d (.val (.bool r)))) (p0 : NodeA) (p1 : Int) (p2 : Bool) (p3 : Bool) (r : Bool) (h : r08_well_body K self32 self68 p0 p1 p2 p3 = some r) : Cn Tryz.prog 32 [aggV p0.enc, .d (.val (.int .i64 p1)), .d (.val (.bool p2)), .d (.val (.bool p3))] (.d (.val (.bool r))) := by
 have q0 := fun k z => cv_int (k' := k) (z := z) Tryz.underlying5 Tryz.underlying3
 refine Cn.oz Tryz.func32 Tryz.call32 Tryz.ntmps32 Tryz.results32 fun hfit => ?_
 unfold r08_well_body at h
 refine AW.kr [] [0, 1, 2, 3] ?_
 refine AW.ks [0] [1, 2, 3, 4] ?_
 refine AW.jo h (fun _ => [(2, vB p2), (3, vB p3), (4, .ptr 0 6 0 0)]) (fun _ => [vE p0.enc]) (fun oJ2 h hJ2 => ?_) fun ⟨⟩ h => ?_
 ·refine AW.jn h (fun v3_0 => [(2, vB p2), (3, vB p3), (4, .ptr 0 6 0 0), (35, vB v3_0)]) (fun v3_0 => [vE p0.enc]) (fun oJ4 h => ?_) fun v3_0 h => ?_
  ·refine AW.rp ?_
   refine pm h r08_Sort_ok fun r5 hx6 h => ?_
   refine sK h (fun hb7 h => ?_) fun hb7 h => ?_
   ·exact ja [0] h
   refine pm h r08_named_ok fun r8 hx9 h => ?_
   refine pm h r08_Name_ok fun r10 hx11 h => ?_
   refine sK h (fun hb12 h => ?_) fun hb12 h => ?_
   ·exact ja [0] h
   refine pm h r08_named_ok fun r13 hx14 h => ?_
   refine sK h (fun hb15 h => ?_) fun hb15 h => ?_
   ·exact ja [0] h
   exact ja [0] h
  refine AW.tk h (fun hb16 h => ?_) fun hb16 h => ?_
  ·refine AW.ro ?_
   refine AW.ret ?_
   have h := up h hJ2
   cases h; refine nz ?_; exact .same _
  exact jo [0] h
 refine AW.jo h (fun _ => [(2, vB p2), (3, vB p3), (4, .ptr 0 6 0 0)]) (fun _ => [vE p0.enc]) (fun oJ18 h hJ18 => ?_) fun ⟨⟩ h => ?_
 ·refine AW.ro ?_
  refine AW.ks [0] [2, 3, 4, 38] ?_
  refine AW.tt h (fun hb19 h => ?_) fun hb19 h => ?_
  ·refine AW.ro ?_
   refine cm h r08_natural_ok fun r20 hx21 h => ?_
   refine AW.ks [0] [2, 3, 4, 42] ?_
   refine AW.tk h (fun hb22 h => ?_) fun hb22 h => ?_
   ·refine AW.ro ?_
    refine AW.ret ?_
    have h := up h hJ18
    cases h; refine nz ?_; exact .same _
   exact jo [0] h
  refine AW.jn h (fun v23_0 => [(2, vB p2), (3, vB p3), (4, .ptr 0 6 0 0), (59, vB v23_0)]) (fun v23_0 => [vE p0.enc]) (fun oJ24 h => ?_) fun v23_0 h => ?_
  ·refine AW.rp ?_
   refine sK h (fun hb25 h => ?_) fun hb25 h => ?_
   ·exact ja [0] h
   refine sK h (fun hb26 h => ?_) fun hb26 h => ?_
   ·exact ja [0] h
   exact ja [0] h
  refine AW.tk h (fun hb27 h => ?_) fun hb27 h => ?_
  ·refine AW.ro ?_
   refine AW.ret ?_
   have h := up h hJ18
   cases h; refine nz ?_; exact .same _
  exact jo [0] h
 refine AW.jo h (fun _ => [(2, vB p2), (3, vB p3), (4, .ptr 0 6 0 0)]) (fun _ => [vE p0.enc]) (fun oJ29 h hJ29 => ?_) fun ⟨⟩ h => ?_
 ·refine AW.jn h (fun v30_0 => [(2, vB p2), (3, vB p3), (4, .ptr 0 6 0 0), (76, vB v30_0)]) (fun v30_0 => [vE p0.enc]) (fun oJ31 h => ?_) fun v30_0 h => ?_
  ·refine AW.rp ?_
   refine sK h (fun hb32 h => ?_) fun hb32 h => ?_
   ·refine sK h (fun hb33 h => ?_) fun hb33 h => ?_
    ·exact ja [0] h
    exact ja [0] h
   refine sK h (fun hb34 h => ?_) fun hb34 h => ?_
   ·exact ja [0] h
   exact ja [0] h
  refine AW.tk h (fun hb35 h => ?_) fun hb35 h => ?_
  ·refine AW.ro ?_
   refine AW.ret ?_
   have h := up h hJ29
   cases h; refine nz ?_; exact .same _
  exact jo [0] h
 refine AW.one ?_
 refine AW.ro ?_
 refine AW.ks [0] [2, 3, 4, 79] ?_
 refine AW.tk h (fun hb36 h => ?_) fun hb36 h => ?_
 ·refine AW.ro ?_
  refine cm h (hself68 _ _) fun r37 hx38 h => ?_
  refine AW.ret ?_
  cases h; refine nz ?_; exact .same _
 refine AW.kr [0] [2, 3, 4] ?_
 refine cm h r08_kids_ok fun r39 hx40 h => ?_
 refine AW.ks [0] [2, 3, 4, 9] ?_
 refine AW.jn h (fun v41_0 => [(2, vB p2), (3, vB p3), (4, .ptr 0 6 0 0), (9, vS v41_0)]) (fun v41_0 => [vE p0.enc]) (fun oJ42 h => ?_) fun v41_0 h => ?_
 ·refine AW.jn h (fun v43_0 => [(2, vB p2), (3, vB p3), (4, .ptr 0 6 0 0), (9, vS r39), (94, vB v43_0)]) (fun v43_0 => [vE p0.enc]) (fun oJ44 h => ?_) fun v43_0 h => ?_
  ·refine AW.rp ?_
   refine sK h (fun hb45 h => ?_) fun hb45 h => ?_
   ·exact ja [0] h
   exact ja [0] h
  refine AW.tk h (fun hb46 h => ?_) fun hb46 h => ?_
  ·refine AW.ro ?_
   refine AW.ks [0] [2, 3, 4, 9, 98] ?_
   refine AW.tk h (fun hb47 h => ?_) fun hb47 h => ?_
   ·refine AW.rp ?_
    exact ja [0] h
   exact ja [0] h
  exact ja [0] h
 refine AW.one ?_
 refine AW.ro ?_
 refine AW.ks [0] [2, 3, 4, 9, 104] ?_
 refine AW.tk h (fun hb48 h => ?_) fun hb48 h => ?_
 ·refine AW.ro ?_
  refine AW.ret ?_
  cases h; refine nz ?_; exact .same _
 refine AW.ks [0] [2, 3, 4, 9] ?_
 refine AW.one ?_
 refine AW.ro ?_
 refine AW.ks [0] [2, 3, 4, 9, 10] ?_
 refine AW.lp h (fun _ => [(4, .ptr 0 6 0 0)]) (fun _ => [vE p0.enc]) (fun i49_0 => [(2, vB p2), (3, vB p3), (4, .ptr 0 6 0 0), (9, vS v41_0), (10, vI i49_0)]) (fun i49_0 => [vE p0.enc]) [0] (fun oJ52 hJ52 again i49_0 h => ?_) fun ⟨⟩ h => ?_
 ·refine AW.one ?_
  refine AW.ro ?_
  refine AW.ks [0] [2, 3, 4, 9, 10, 108] ?_
  refine AW.tt h (fun hb53 h => ?_) fun hb53 h => ?_
  ·refine AW.sk ?_
   refine AW.ks [0] [2, 3, 4, 9, 10] ?_
   refine AW.jo h (fun _ => [(2, vB p2), (3, vB p3), (4, .ptr 0 6 0 0), (9, vS v41_0), (10, vI i49_0)]) (fun _ => [vE p0.enc]) (fun oJ55 h hJ55 => ?_) fun ⟨⟩ h => ?_
   ·refine AW.block ?_
    refine AW.jn h (fun v56_0 => [(2, vB p2), (3, vB p3), (4, .ptr 0 6 0 0), (9, vS v41_0), (10, vI i49_0), (134, vB v56_0)]) (fun v56_0 => [vE p0.enc]) (fun oJ57 h => ?_) fun v56_0 h => ?_
    ·refine AW.rp ?_
     refine bx h fun x58 h0 h1 h => ?_
     refine bb h fun c60 hx61 h => ?_
     refine sK h (fun hb62 h => ?_) fun hb62 h => ?_
     ·refine sK h (fun hb63 h => ?_) fun hb63 h => ?_
      ·refine pm h (hself32 _ _) fun r64 hx65 h => ?_
       exact ja [0] h
      refine pm h (hself32 _ _) fun r66 hx67 h => ?_
      exact ja [0] h
     refine sK h (fun hb68 h => ?_) fun hb68 h => ?_
     ·refine pm h (hself32 _ _) fun r69 hx70 h => ?_
      exact ja [0] h
     refine pm h (hself32 _ _) fun r71 hx72 h => ?_
     exact ja [0] h
    refine AW.tk h (fun hb73 h => ?_) fun hb73 h => ?_
    ·refine AW.ro ?_
     refine AW.ret ?_
     have h := up h hJ55
     have h := up h hJ52
     cases h; refine nz ?_; exact .same _
    exact jo [0] h
   refine AW.rp ?_
   exact na [0] h
  refine AW.ex ?_
  exact jo [0] h
 refine AW.ks [0] [4] ?_
 refine AW.one ?_
 refine AW.ro ?_
 refine AW.ks [0] [4, 136] ?_
 refine AW.block ?_
 refine AW.ro ?_
 refine AW.ks [0] [4, 136, 137] ?_
 refine AW.tt h (fun hb74 h => ?_) fun hb74 h => ?_
 ·refine AW.ro ?_
  refine bx h fun x75 h0 h1 h => ?_
  refine sK h (fun hb77 h => ?_) fun hb77 h => ?_
  ·refine AW.ret ?_
   cases h; refine nz ?_; exact .same _
  refine AW.ret ?_
  cases h; refine nz ?_; exact .same _
 refine AW.ro ?_
 refine AW.ks [0] [4, 136, 155] ?_
 refine AW.tt h (fun hb78 h => ?_) fun hb78 h => ?_
 ·refine AW.ro ?_
  refine bx h fun x79 h0 h1 h => ?_
  refine sK h (fun hb81 h => ?_) fun hb81 h => ?_
  ·refine cm h r08_Natural_ok fun r82 hx83 h => ?_
   refine AW.ret ?_
   cases h; refine nz ?_; exact .same _
  refine AW.ret ?_
  cases h; refine nz ?_; exact .same _
 refine AW.ro ?_
 refine AW.ks [0] [4, 172] ?_
 refine AW.tk h (fun hb84 h => ?_) fun hb84 h => ?_
 ·refine AW.ro ?_
  refine bx h fun x85 h0 h1 h => ?_
  refine cm h r08_differential_ok fun r87 hx88 h => ?_
  refine AW.ret ?_
  cases h; refine nz ?_; exact .same _
 refine AW.kr [] [] ?_
 refine AW.ret ?_
 cases h; refine nz ?_; exact .same _
/-! ### isochrone/isochroneref08.flow -/
def r08_flow_body (K : Nat) (self32 : (NodeA × Int × Bool × Bool) → Option Bool) (self68 : (NodeA × Bool × Bool) → Option Bool) (p0 : NodeA) (p1 : Bool) (p2 : Bool) : Option Bool := ((
  ((
   if (decide ((p0.kids.length : Int) < (2 : Int))) then
    some true
   else
    (r08_primed K p0).bind fun r6 =>
    if r6 then
     some true
    else
     (idx p0.kids (IntKind.wrap .i64 ((p0.kids.length : Int) - (1 : Int)))).bind fun x9 =>
     (self32 (x9, (2 : Int), p1, p2)).bind fun r11 =>
     some (!r11)) : Option Bool).bind (fun v3_0 =>
  if v3_0 then
   outM (
    some false)
  else
   some (.go ()))) : Option (Out Unit _)).bind (Out.fin fun _ =>
 ((iter (S := Int) (R := Out Unit _) K (fun again i14_0 =>
  if (decide (i14_0 < (IntKind.wrap .i64 ((p0.kids.length : Int) - (1 : Int))))) then
   ((
    (idx p0.kids i14_0).bind fun x21 =>
    ((
     ((
      if (x21.op == (56 : Int)) then
       if (decide (i14_0 < (IntKind.wrap .i64 ((p0.kids.length : Int) - (2 : Int))))) then
        some true
       else
        if (x21.op != (56 : Int)) then
         if (x21.op != (55 : Int)) then
          some true
         else
          (self32 (x21, (4 : Int), p1, p2)).bind fun r31 =>
          some (!r31)
        else
         (self32 (x21, (4 : Int), p1, p2)).bind fun r33 =>
         some (!r33)
      else
       if (x21.op != (56 : Int)) then
        if (x21.op != (55 : Int)) then
         some true
        else
         (self32 (x21, (4 : Int), p1, p2)).bind fun r37 =>
         some (!r37)
       else
        (self32 (x21, (4 : Int), p1, p2)).bind fun r39 =>
        some (!r39)) : Option Bool).bind (fun v25_0 =>
     if v25_0 then
      outM (
       outM (
        outM (
         some false)))
     else
      some (.go ()))) : Option (Out Unit _)).bind (Out.fin fun _ =>
    ((iter (S := Int) (R := Out Unit _) K (fun again i42_0 =>
     if (decide (i42_0 < i14_0)) then
      ((
       ((
        if (x21.op == (55 : Int)) then
         (idx p0.kids i42_0).bind fun x52 =>
         some (x52.name.toList == x21.name.toList)
        else
         some false) : Option Bool).bind (fun v49_0 =>
       if v49_0 then
        outM (
         outM (
          outM (
           outM (
            some false))))
       else
        some (.go ()))) : Option (Out Unit _)).bind (Out.fin fun _ =>
      again (IntKind.wrap .i64 (i42_0 + (1 : Int))))
     else
      some (.go ())) (0 : Int)) : Option (Out Unit _)).bind (Out.fin fun _ =>
    some (.go ())))) : Option (Out Unit _)).bind (Out.fin fun _ =>
   again (IntKind.wrap .i64 (i14_0 + (1 : Int))))
  else
   some (.go ())) (0 : Int)) : Option (Out Unit _)).bind (Out.fin fun _ =>
 some true))
set_option maxHeartbeats 4000000 in
theorem r08_flow_step (K : Nat) (self32 : (NodeA × Int × Bool × Bool) → Option Bool) (self68 : (NodeA × Bool × Bool) → Option Bool) (hself32 : ∀ (q : NodeA × Int × Bool × Bool) (r : Bool), self32 q = some r → Cn Tryz.prog 32 [aggV q.1.enc, .d (.val (.int .i64 q.2.1)), .d (.val (.bool q.2.2.1)), .d (.val (.bool q.2.2.2))] (.d (.val (.bool r)))) (hself68 : ∀ (q : NodeA × Bool × Bool) (r : Bool), self68 q = some r → Cn Tryz.prog 68 [aggV q.1.enc, .d (.val (.bool q.2.1)), .d (.val (.bool q.2.2))] (.d (.val (.bool r)))) (p0 : NodeA) (p1 : Bool) (p2 : Bool) (r : Bool) (h : r08_flow_body K self32 self68 p0 p1 p2 = some r) : Cn Tryz.prog 68 [aggV p0.enc, .d (.val (.bool p1)), .d (.val (.bool p2))] (.d (.val (.bool r))) := by
 refine Cn.oz Tryz.func68 Tryz.call68 Tryz.ntmps68 Tryz.results68 fun hfit => ?_
 unfold r08_flow_body at h
 refine AW.kr [] [0, 1, 2] ?_
 refine AW.kr [0] [1, 2, 3] ?_
 refine AW.ks [0] [1, 2, 3, 7] ?_
 refine AW.jo h (fun _ => [(1, vB p1), (2, vB p2), (3, .ptr 0 6 0 0), (7, vI (p0.kids.length : Int))]) (fun _ => [vE p0.enc]) (fun oJ2 h hJ2 => ?_) fun ⟨⟩ h => ?_
 ·refine AW.jn h (fun v3_0 => [(1, vB p1), (2, vB p2), (3, .ptr 0 6 0 0), (7, vI (p0.kids.length : Int)), (31, vB v3_0)]) (fun v3_0 => [vE p0.enc]) (fun oJ4 h => ?_) fun v3_0 h => ?_
  ·refine AW.rp ?_
   refine sK h (fun hb5 h => ?_) fun hb5 h => ?_
   ·exact ja [0] h
   refine cm h r08_primed_ok fun r6 hx7 h => ?_
   refine sK h (fun hb8 h => ?_) fun hb8 h => ?_
   ·exact ja [0] h
   refine bx h fun x9 h0 h1 h => ?_
   refine cm h (hself32 _ _) fun r11 hx12 h => ?_
   exact ja [0] h
  refine AW.tk h (fun hb13 h => ?_) fun hb13 h => ?_
  ·refine AW.ro ?_
   refine AW.ret ?_
   have h := up h hJ2
   cases h; refine nz ?_; exact .same _
  exact jo [0] h
 refine AW.one ?_
 refine AW.ro ?_
 refine AW.ks [0] [1, 2, 3, 7, 8] ?_
 refine AW.lp h (fun _ => []) (fun _ => []) (fun i14_0 => [(1, vB p1), (2, vB p2), (3, .ptr 0 6 0 0), (7, vI (p0.kids.length : Int)), (8, vI i14_0)]) (fun i14_0 => [vE p0.enc]) [0] (fun oJ17 hJ17 again i14_0 h => ?_) fun ⟨⟩ h => ?_
 ·refine AW.one ?_
  refine AW.ro ?_
  refine AW.ks [0] [1, 2, 3, 7, 8, 35] ?_
  refine AW.tt h (fun hb18 h => ?_) fun hb18 h => ?_
  ·refine AW.sk ?_
   refine AW.ks [0] [1, 2, 3, 7, 8] ?_
   refine AW.jo h (fun _ => [(1, vB p1), (2, vB p2), (3, .ptr 0 6 0 0), (7, vI (p0.kids.length : Int)), (8, vI i14_0)]) (fun _ => [vE p0.enc]) (fun oJ20 h hJ20 => ?_) fun ⟨⟩ h => ?_
   ·refine AW.block ?_
    refine AW.ro ?_
    refine bx h fun x21 h0 h1 h => ?_
    refine AW.ks [0, 6] [1, 2, 3, 7, 8, 9] ?_
    refine AW.jo h (fun _ => [(1, vB p1), (2, vB p2), (3, .ptr 0 6 0 0), (7, vI (p0.kids.length : Int)), (8, vI i14_0), (9, .ptr 1 6 0 0)]) (fun _ => [vE p0.enc, vE x21.enc]) (fun oJ24 h hJ24 => ?_) fun ⟨⟩ h => ?_
    ·refine AW.jn h (fun v25_0 => [(1, vB p1), (2, vB p2), (3, .ptr 0 6 0 0), (7, vI (p0.kids.length : Int)), (8, vI i14_0), (9, .ptr 1 6 0 0), (68, vB v25_0)]) (fun v25_0 => [vE p0.enc, vE x21.enc]) (fun oJ26 h => ?_) fun v25_0 h => ?_
     ·refine AW.rp ?_
      refine sK h (fun hb27 h => ?_) fun hb27 h => ?_
      ·refine sK h (fun hb28 h => ?_) fun hb28 h => ?_
       ·exact ja [0, 1] h
       refine sK h (fun hb29 h => ?_) fun hb29 h => ?_
       ·refine sK h (fun hb30 h => ?_) fun hb30 h => ?_
        ·exact ja [0, 1] h
        refine cm h (hself32 _ _) fun r31 hx32 h => ?_
        exact ja [0, 1] h
       refine cm h (hself32 _ _) fun r33 hx34 h => ?_
       exact ja [0, 1] h
      refine sK h (fun hb35 h => ?_) fun hb35 h => ?_
      ·refine sK h (fun hb36 h => ?_) fun hb36 h => ?_
       ·exact ja [0, 1] h
       refine cm h (hself32 _ _) fun r37 hx38 h => ?_
       exact ja [0, 1] h
      refine cm h (hself32 _ _) fun r39 hx40 h => ?_
      exact ja [0, 1] h
     refine AW.tk h (fun hb41 h => ?_) fun hb41 h => ?_
     ·refine AW.ro ?_
      refine AW.ret ?_
      have h := up h hJ24
      have h := up h hJ20
      have h := up h hJ17
      cases h; refine nz ?_; exact .same _
     exact jo [0, 1] h
    refine AW.ro ?_
    refine AW.ks [0, 1] [1, 2, 3, 7, 8, 9, 10] ?_
    refine AW.lp h (fun _ => [(1, vB p1), (2, vB p2), (3, .ptr 0 6 0 0), (7, vI (p0.kids.length : Int)), (8, vI i14_0)]) (fun _ => [vE p0.enc]) (fun i42_0 => [(1, vB p1), (2, vB p2), (3, .ptr 0 6 0 0), (7, vI (p0.kids.length : Int)), (8, vI i14_0), (9, .ptr 1 6 0 0), (10, vI i42_0)]) (fun i42_0 => [vE p0.enc, vE x21.enc]) [0, 1] (fun oJ45 hJ45 again i42_0 h => ?_) fun ⟨⟩ h => ?_
    ·refine AW.one ?_
     refine AW.ro ?_
     refine AW.ks [0, 1] [1, 2, 3, 7, 8, 9, 10, 71] ?_
     refine AW.tt h (fun hb46 h => ?_) fun hb46 h => ?_
     ·refine AW.sk ?_
      refine AW.ks [0, 1] [1, 2, 3, 7, 8, 9, 10] ?_
      refine AW.jo h (fun _ => [(1, vB p1), (2, vB p2), (3, .ptr 0 6 0 0), (7, vI (p0.kids.length : Int)), (8, vI i14_0), (9, .ptr 1 6 0 0), (10, vI i42_0)]) (fun _ => [vE p0.enc, vE x21.enc]) (fun oJ48 h hJ48 => ?_) fun ⟨⟩ h => ?_
      ·refine AW.block ?_
       refine AW.jn h (fun v49_0 => [(1, vB p1), (2, vB p2), (3, .ptr 0 6 0 0), (7, vI (p0.kids.length : Int)), (8, vI i14_0), (9, .ptr 1 6 0 0), (10, vI i42_0), (87, vB v49_0)]) (fun v49_0 => [vE p0.enc, vE x21.enc]) (fun oJ50 h => ?_) fun v49_0 h => ?_
       ·refine AW.rp ?_
        refine sK h (fun hb51 h => ?_) fun hb51 h => ?_
        ·refine bx h fun x52 h0 h1 h => ?_
         exact ja [0, 1] h
        exact ja [0, 1] h
       refine AW.tk h (fun hb54 h => ?_) fun hb54 h => ?_
       ·refine AW.ro ?_
        refine AW.ret ?_
        have h := up h hJ48
        have h := up h hJ45
        have h := up h hJ20
        have h := up h hJ17
        cases h; refine nz ?_; exact .same _
       exact jo [0, 1] h
      refine AW.rp ?_
      exact na [0, 1] h
     refine AW.ex ?_
     exact jo [0] h
    exact jo [0] h
   refine AW.rp ?_
   exact na [0] h
  refine AW.ex ?_
  exact jo [] h
 refine AW.kr [] [] ?_
 refine AW.ret ?_
 cases h; refine nz ?_; exact .same _
def grp_r08_well (K : Nat) : Nat → ((NodeA × Int × Bool × Bool) → Option Bool) × ((NodeA × Bool × Bool) → Option Bool)
 | 0 => (fun _ => none, fun _ => none)
 | k + 1 => (fun q => r08_well_body K (grp_r08_well K k).1 (grp_r08_well K k).2 q.1 q.2.1 q.2.2.1 q.2.2.2, fun q => r08_flow_body K (grp_r08_well K k).1 (grp_r08_well K k).2 q.1 q.2.1 q.2.2)
def r08_well (K : Nat) (p0 : NodeA) (p1 : Int) (p2 : Bool) (p3 : Bool) : Option Bool := (grp_r08_well K K).1 (p0, p1, p2, p3)
theorem key_r08_well {K : Nat} (k : Nat) : (∀ (q : NodeA × Int × Bool × Bool) (r : Bool), (grp_r08_well K k).1 q = some r → Cn Tryz.prog 32 [aggV q.1.enc, .d (.val (.int .i64 q.2.1)), .d (.val (.bool q.2.2.1)), .d (.val (.bool q.2.2.2))] (.d (.val (.bool r)))) ∧ (∀ (q : NodeA × Bool × Bool) (r : Bool), (grp_r08_well K k).2 q = some r → Cn Tryz.prog 68 [aggV q.1.enc, .d (.val (.bool q.2.1)), .d (.val (.bool q.2.2))] (.d (.val (.bool r)))) := by
 induction k with
 | zero => exact ⟨(fun q r h => nomatch (show (none : Option _) = some r from h)), (fun q r h => nomatch (show (none : Option _) = some r from h))⟩
 | succ k ih => exact ⟨fun q r h => r08_well_step K _ _ ih.1 ih.2 q.1 q.2.1 q.2.2.1 q.2.2.2 r h, fun q r h => r08_flow_step K _ _ ih.1 ih.2 q.1 q.2.1 q.2.2 r h⟩
theorem r08_well_ok {K : Nat} {p0 : NodeA} {p1 : Int} {p2 : Bool} {p3 : Bool} {r : Bool} (h : r08_well K p0 p1 p2 p3 = some r) : Cn Tryz.prog 32 [aggV p0.enc, .d (.val (.int .i64 p1)), .d (.val (.bool p2)), .d (.val (.bool p3))] (.d (.val (.bool r))) := (key_r08_well K).1 (p0, p1, p2, p3) r h
/-! ### isochrone/isochroneref08.Check -/
def r08_Check (K : Nat) (p0 : NodeA) (p1 : Int) : Option Int := ((
  if (decide (p1 < (1 : Int))) then
   some true
  else
   some (decide ((3 : Int) < p1))) : Option Bool).bind (fun v1_0 =>
 if v1_0 then
  some (1 : Int)
 else
  ((
   (r08_Size K p0).bind fun r7 =>
   if (decide ((4000 : Int) < r7)) then
    some true
   else
    (r08_Levels K p0).bind fun r10 =>
    some (decide ((60 : Int) < r10))) : Option Bool).bind (fun v5_0 =>
  if v5_0 then
   some (2 : Int)
  else
   (r08_Sort K p0.op).bind fun r13 =>
   if (r13 != p1) then
    some (80 : Int)
   else
    (r08_well K p0 p1 false false).bind fun r16 =>
    if (!r16) then
     some (3 : Int)
    else
     some (0 : Int)))
set_option maxHeartbeats 4000000 in
theorem r08_Check_ok {K : Nat} {p0 : NodeA} {p1 : Int} {r : Int} (h : r08_Check K p0 p1 = some r) : Cn Tryz.prog 19 [aggV p0.enc, .d (.val (.int .i64 p1))] (.d (.val (.int .i64 r))) := by
 refine Cn.oz Tryz.func19 Tryz.call19 Tryz.ntmps19 Tryz.results19 fun hfit => ?_
 unfold r08_Check at h
 refine AW.kr [] [0, 1] ?_
 refine AW.ks [0] [1, 2] ?_
 refine AW.one ?_
 refine AW.block ?_
 refine AW.jn h (fun v1_0 => [(1, vI p1), (2, .ptr 0 6 0 0), (5, vB v1_0)]) (fun v1_0 => [vE p0.enc]) (fun oJ2 h => ?_) fun v1_0 h => ?_
 ·refine AW.rp ?_
  refine sK h (fun hb3 h => ?_) fun hb3 h => ?_
  ·exact ja [0] h
  exact ja [0] h
 refine AW.tt h (fun hb4 h => ?_) fun hb4 h => ?_
 ·refine AW.ro ?_
  refine AW.ret ?_
  cases h; refine nz ?_; exact .same _
 refine AW.jn h (fun v5_0 => [(1, vI p1), (2, .ptr 0 6 0 0), (12, vB v5_0)]) (fun v5_0 => [vE p0.enc]) (fun oJ6 h => ?_) fun v5_0 h => ?_
 ·refine AW.rp ?_
  refine cm h r08_Size_ok fun r7 hx8 h => ?_
  refine sK h (fun hb9 h => ?_) fun hb9 h => ?_
  ·exact ja [0] h
  refine cm h r08_Levels_ok fun r10 hx11 h => ?_
  exact ja [0] h
 refine AW.tt h (fun hb12 h => ?_) fun hb12 h => ?_
 ·refine AW.ro ?_
  refine AW.ret ?_
  cases h; refine nz ?_; exact .same _
 refine AW.ro ?_
 refine cm h r08_Sort_ok fun r13 hx14 h => ?_
 refine AW.ks [0] [1, 2, 21] ?_
 refine AW.tt h (fun hb15 h => ?_) fun hb15 h => ?_
 ·refine AW.ro ?_
  refine AW.ret ?_
  cases h; refine nz ?_; exact .same _
 refine AW.ro ?_
 refine cm h r08_well_ok fun r16 hx17 h => ?_
 refine AW.ks [] [27] ?_
 refine AW.tk h (fun hb18 h => ?_) fun hb18 h => ?_
 ·refine AW.ro ?_
  refine AW.ret ?_
  cases h; refine nz ?_; exact .same _
 refine AW.kr [] [] ?_
 refine AW.ret ?_
 cases h; refine nz ?_; exact .same _
/-! ### isochrone/isochroneref01.trim -/
def r01_trim (K : Nat) (p0 : List Int) : Option (List Int) := ((iter (S := Int) (R := Int) K (fun again i1_0 =>
  ((
   ((
    if (decide ((0 : Int) < i1_0)) then
     (idx p0 (IntKind.wrap .i64 (i1_0 - (1 : Int)))).bind fun x10 =>
     some (x10 == (0 : Int))
    else
     some false) : Option Bool).bind (fun v7_0 =>
   if v7_0 then
    some (.go ())
   else
    outM (
     some i1_0))) : Option (Out Unit _)).bind (Out.fin fun _ =>
  again (IntKind.wrap .i64 (i1_0 - (1 : Int))))) (p0.length : Int)) : Option Int).bind (fun e2_0 =>
 (cutL p0 none (some e2_0)).bind fun s13 =>
 some s13)
set_option maxHeartbeats 4000000 in
theorem r01_trim_ok {K : Nat} {p0 : List Int} {r : (List Int)} (h : r01_trim K p0 = some r) : Cn Tryz.prog 113 [.d (slD i64V p0)] (.d (slD i64V r)) := by
 refine Cn.oz Tryz.func113 Tryz.call113 Tryz.ntmps113 Tryz.results113 fun hfit => ?_
 unfold r01_trim at h
 refine AW.kr [] [0] ?_
 refine AW.kr [] [0] ?_
 refine AW.ks [] [0, 3] ?_
 refine AW.ln h (fun e2_0 => [(0, vL i64V p0), (3, vI e2_0)]) (fun e2_0 => []) (fun i1_0 => [(0, vL i64V p0), (3, vI i1_0)]) (fun i1_0 => []) [] (fun oJ4 again i1_0 h => ?_) fun e2_0 h => ?_
 ·refine AW.jo h (fun _ => [(0, vL i64V p0), (3, vI i1_0)]) (fun _ => []) (fun oJ6 h hJ6 => ?_) fun ⟨⟩ h => ?_
  ·refine AW.jn h (fun v7_0 => [(0, vL i64V p0), (3, vI i1_0), (15, vB v7_0)]) (fun v7_0 => []) (fun oJ8 h => ?_) fun v7_0 h => ?_
   ·refine AW.rp ?_
    refine sK h (fun hb9 h => ?_) fun hb9 h => ?_
    ·refine bx h fun x10 h0 h1 h => ?_
     exact ja [] h
    exact ja [] h
   refine AW.tt h (fun hb12 h => ?_) fun hb12 h => ?_
   ·refine AW.sk ?_
    exact jo [] h
   refine AW.ex ?_
   have h := up h hJ6
   exact ja [] h
  refine AW.block ?_
  refine AW.rp ?_
  exact na [] h
 refine AW.kr [] [0, 3] ?_
 refine bb h fun s13 hx14 h => ?_
 refine AW.ret ?_
 cases h; refine nz ?_; exact .same _
/-! ### isochrone/isochroneref01.Small -/
def r01_Small (K : Nat) (p0 : List Int) (p1 : Int) (p2 : Int) : Option (List Int) := (makC 8 (0 : Int) (IntKind.wrap .i64 ((p0.length : Int) + (2 : Int))) (0 : Int)).bind fun l1 =>
 ((iter (S := Int × Int × (List Int)) (R := (Int × (List Int))) K (fun again (i3_0, i3_1, i3_2) =>
  if (decide (i3_1 < (p0.length : Int))) then
   (idx p0 i3_1).bind fun x8 =>
   (must ((10000 : Int) != 0)).bind fun z10 =>
   (appO 8 i3_2 [(IntKind.wrap .i64 (i3_0 + (IntKind.wrap .i64 (x8 * p1)))).tmod (10000 : Int)]).bind fun l12 =>
   (must ((10000 : Int) != 0)).bind fun z14 =>
   again (IntKind.wrap .i64 ((IntKind.wrap .i64 (i3_0 + (IntKind.wrap .i64 (x8 * p1)))).tdiv (10000 : Int)), IntKind.wrap .i64 (i3_1 + (1 : Int)), l12)
  else
   some (i3_0, i3_2)) (p2, (0 : Int), l1)) : Option (Int × (List Int))).bind (fun (e4_0, e4_1) =>
 ((iter (S := Int × (List Int)) (R := (List Int)) K (fun again (i16_0, i16_1) =>
  if (decide ((0 : Int) < i16_0)) then
   (must ((10000 : Int) != 0)).bind fun z21 =>
   (appO 8 i16_1 [i16_0.tmod (10000 : Int)]).bind fun l23 =>
   (must ((10000 : Int) != 0)).bind fun z25 =>
   again (IntKind.wrap .i64 (i16_0.tdiv (10000 : Int)), l23)
  else
   some i16_1) (e4_0, e4_1)) : Option (List Int)).bind (fun e17_0 =>
 (r01_trim K e17_0).bind fun r27 =>
 some r27))
set_option maxHeartbeats 4000000 in
theorem r01_Small_ok {K : Nat} {p0 : List Int} {p1 : Int} {p2 : Int} {r : (List Int)} (h : r01_Small K p0 p1 p2 = some r) : Cn Tryz.prog 93 [.d (slD i64V p0), .d (.val (.int .i64 p1)), .d (.val (.int .i64 p2))] (.d (slD i64V r)) := by
 refine Cn.ofA mixed Tryz.func93 rfl Tryz.call93 Tryz.ntmps93 Tryz.results93 (by simp) (by simp only [go_sem, reduceEqDiff, reduceAdd, reduceSub, reduceMul, reduceLeDiff, reduceLT, Nat.reduceBEq, reduceIte]) fun hfit => ?_
 unfold r01_Small at h
 refine AW.kp [] [0, 1, 2] ?_
 refine AW.op mixed ?_
 refine AW.kp [] [0, 1, 2] ?_
 refine AW.op mixed ?_
 apply obindE h; intro l1 hx2 h
 refine makC' (f := i64V) hx2 (nz ?_) ?_
 ·exact ⟨.same _, trivial⟩
 try simp only [go_sem, reduceEqDiff, reduceAdd, reduceSub, reduceMul, reduceLeDiff, reduceLT, Nat.reduceBEq, reduceIte]
 refine AW.cu [3] [(0, .d (slD i64V p0)), (1, .d (.val (.int .i64 p1))), (2, .d (.val (.int .i64 p2))), (7, .msl 0 1 0 (l1.length))] [some ⟨1, (l1.map i64V).map (·.map .d)⟩] ?_
 refine AW.one ?_
 refine AW.op mixed ?_
 refine AW.cu [0] [(1, .d (.val (.int .i64 p1))), (2, .d (.val (.int .i64 p2))), (7, .msl 0 1 0 (l1.length)), (14, .d (slD i64V p0)), (15, .d (.val (.int .i64 (p0.length : Int)))), (16, .d (.val (.int .i64 (0 : Int))))] [some ⟨1, (l1.map i64V).map (·.map .d)⟩] ?_
 refine obindE h fun oJ6 h hJ6 => ?_
 refine AW.join (S := Int × (List Int)) (fun (e4_0, e4_1) => [(2, .d (.val (.int .i64 e4_0))), (7, .msl 0 1 0 (e4_1.length))]) (fun (e4_0, e4_1) => [some ⟨1, (e4_1.map i64V).map (·.map .d)⟩]) (fun x => x = oJ6) ?_ ?_
 ·refine AW.block ?_
  refine AW.iter (S := Int × Int × (List Int)) (fun (i3_0, i3_1, i3_2) => [(1, .d (.val (.int .i64 p1))), (2, .d (.val (.int .i64 i3_0))), (7, .msl 0 1 0 (i3_2.length)), (14, .d (slD i64V p0)), (15, .d (.val (.int .i64 (p0.length : Int)))), (16, .d (.val (.int .i64 i3_1)))]) (fun (i3_0, i3_1, i3_2) => [some ⟨1, (i3_2.map i64V).map (·.map .d)⟩]) [0] h (by simp only [go_sem, reduceEqDiff, reduceAdd, reduceSub, reduceMul, reduceLeDiff, reduceLT, Nat.reduceBEq, reduceIte]) ?_
  rintro again ⟨i3_0, i3_1, i3_2⟩ h
  try dsimp only at h
  refine AW.op mixed ?_
  refine AW.cu [0] [(1, .d (.val (.int .i64 p1))), (2, .d (.val (.int .i64 i3_0))), (7, .msl 0 1 0 (i3_2.length)), (14, .d (slD i64V p0)), (15, .d (.val (.int .i64 (p0.length : Int)))), (16, .d (.val (.int .i64 i3_1))), (17, .d (.val (.bool (decide (i3_1 < (p0.length : Int))))))] [some ⟨1, (i3_2.map i64V).map (·.map .d)⟩] ?_
  refine AW.one ?_
  refine AW.ts (decide (i3_1 < (p0.length : Int))) (fun hb7 => ?_) (fun hb7 => ?_)
  ·have h := ifT hb7 h
   refine AW.sk ?_
   refine AW.cu [0] [(1, .d (.val (.int .i64 p1))), (2, .d (.val (.int .i64 i3_0))), (7, .msl 0 1 0 (i3_2.length)), (14, .d (slD i64V p0)), (15, .d (.val (.int .i64 (p0.length : Int)))), (16, .d (.val (.int .i64 i3_1)))] [some ⟨1, (i3_2.map i64V).map (·.map .d)⟩] ?_
   refine AW.one ?_
   refine AW.block ?_
   refine AW.one ?_
   refine AW.reg mixed (by kernel_rfl) ?_
   apply obindE h; intro x8 hx9 h
   try simp only [go_sem, reduceEqDiff, reduceAdd, reduceSub, reduceMul, reduceLeDiff, reduceLT, Nat.reduceBEq, reduceIte, (idx_some hx9).1, (idx_some hx9).2]
   refine AW.cut [0] [(1, .d (.val (.int .i64 p1))), (2, .d (.val (.int .i64 i3_0))), (7, .msl 0 1 0 (i3_2.length)), (9, .d (.val (.int .i64 x8))), (14, .d (slD i64V p0)), (15, .d (.val (.int .i64 (p0.length : Int)))), (16, .d (.val (.int .i64 i3_1)))] [some ⟨1, (i3_2.map i64V).map (·.map .d)⟩] (by simp only [go_sem, reduceEqDiff, reduceAdd, reduceSub, reduceMul, reduceLeDiff, reduceLT, Nat.reduceBEq, reduceIte, (idx_some hx9).1, (idx_some hx9).2]) ?_
   refine AW.op mixed ?_
   refine AW.cu [0] [(1, .d (.val (.int .i64 p1))), (2, .d (.val (.int .i64 (IntKind.wrap .i64 (i3_0 + (IntKind.wrap .i64 (x8 * p1))))))), (7, .msl 0 1 0 (i3_2.length)), (14, .d (slD i64V p0)), (15, .d (.val (.int .i64 (p0.length : Int)))), (16, .d (.val (.int .i64 i3_1)))] [some ⟨1, (i3_2.map i64V).map (·.map .d)⟩] ?_
   refine AW.one ?_
   refine AW.reg mixed (by kernel_rfl) ?_
   apply obindE h; intro z10 hx11 h
   try simp only [go_sem, reduceEqDiff, reduceAdd, reduceSub, reduceMul, reduceLeDiff, reduceLT, Nat.reduceBEq, reduceIte, bop_rem (P := Tryz.prog) (must_ne hx11)]
   apply obindE h; intro l12 hx13 h
   refine appR (f := i64V) hx13 rfl (by simp only [go_sem, reduceEqDiff, reduceAdd, reduceSub, reduceMul, reduceLeDiff, reduceLT, Nat.reduceBEq, reduceIte, bop_rem (P := Tryz.prog) (must_ne hx11)]) (by simp only [go_sem, reduceEqDiff, reduceAdd, reduceSub, reduceMul, reduceLeDiff, reduceLT, Nat.reduceBEq, reduceIte, bop_rem (P := Tryz.prog) (must_ne hx11)]) (by simp only [go_sem, reduceEqDiff, reduceAdd, reduceSub, reduceMul, reduceLeDiff, reduceLT, Nat.reduceBEq, reduceIte, bop_rem (P := Tryz.prog) (must_ne hx11)]) ?_
   try simp only [go_sem, reduceEqDiff, reduceAdd, reduceSub, reduceMul, reduceLeDiff, reduceLT, Nat.reduceBEq, reduceIte, bop_rem (P := Tryz.prog) (must_ne hx11)]
   refine AW.cut [5] [(1, .d (.val (.int .i64 p1))), (2, .d (.val (.int .i64 (IntKind.wrap .i64 (i3_0 + (IntKind.wrap .i64 (x8 * p1))))))), (7, .msl 0 1 0 (l12.length)), (14, .d (slD i64V p0)), (15, .d (.val (.int .i64 (p0.length : Int)))), (16, .d (.val (.int .i64 i3_1)))] [some ⟨1, (l12.map i64V).map (·.map .d)⟩] (by simp only [go_sem, reduceEqDiff, reduceAdd, reduceSub, reduceMul, reduceLeDiff, reduceLT, Nat.reduceBEq, reduceIte, bop_rem (P := Tryz.prog) (must_ne hx11)]) ?_
   refine AW.reg mixed (by kernel_rfl) ?_
   apply obindE h; intro z14 hx15 h
   try simp only [go_sem, reduceEqDiff, reduceAdd, reduceSub, reduceMul, reduceLeDiff, reduceLT, Nat.reduceBEq, reduceIte, bop_quo (P := Tryz.prog) (must_ne hx15)]
   refine AW.cut [0] [(1, .d (.val (.int .i64 p1))), (2, .d (.val (.int .i64 (IntKind.wrap .i64 ((IntKind.wrap .i64 (i3_0 + (IntKind.wrap .i64 (x8 * p1)))).tdiv (10000 : Int)))))), (7, .msl 0 1 0 (l12.length)), (14, .d (slD i64V p0)), (15, .d (.val (.int .i64 (p0.length : Int)))), (16, .d (.val (.int .i64 i3_1)))] [some ⟨1, (l12.map i64V).map (·.map .d)⟩] (by simp only [go_sem, reduceEqDiff, reduceAdd, reduceSub, reduceMul, reduceLeDiff, reduceLT, Nat.reduceBEq, reduceIte, bop_quo (P := Tryz.prog) (must_ne hx15)]) ?_
   refine AW.rg mixed ?_
   exact NextQ.ar (IntKind.wrap .i64 ((IntKind.wrap .i64 (i3_0 + (IntKind.wrap .i64 (x8 * p1)))).tdiv (10000 : Int)), IntKind.wrap .i64 (i3_1 + (1 : Int)), l12) [0] h
  have h := ifF hb7 h
  refine AW.ex ?_
  exact JoinQ.ar (i3_0, i3_2) [0] (Option.some.inj h)
 rintro ⟨e4_0, e4_1⟩ rfl
 have h := hJ6
 try dsimp only [Out.fin] at h
 refine nz ?_
 refine AW.cu [0] [(2, .d (.val (.int .i64 e4_0))), (7, .msl 0 1 0 (e4_1.length))] [some ⟨1, (e4_1.map i64V).map (·.map .d)⟩] ?_
 refine AW.one ?_
 refine obindE h fun oJ19 h hJ19 => ?_
 refine AW.join (S := (List Int)) (fun e17_0 => [(7, .msl 0 1 0 (e17_0.length))]) (fun e17_0 => [some ⟨1, (e17_0.map i64V).map (·.map .d)⟩]) (fun x => x = oJ19) ?_ ?_
 ·refine AW.block ?_
  refine AW.iter (S := Int × (List Int)) (fun (i16_0, i16_1) => [(2, .d (.val (.int .i64 i16_0))), (7, .msl 0 1 0 (i16_1.length))]) (fun (i16_0, i16_1) => [some ⟨1, (i16_1.map i64V).map (·.map .d)⟩]) [0] h (by simp only [go_sem, reduceEqDiff, reduceAdd, reduceSub, reduceMul, reduceLeDiff, reduceLT, Nat.reduceBEq, reduceIte]) ?_
  rintro again ⟨i16_0, i16_1⟩ h
  try dsimp only at h
  refine AW.one ?_
  refine AW.op mixed ?_
  refine AW.cu [0] [(2, .d (.val (.int .i64 i16_0))), (7, .msl 0 1 0 (i16_1.length)), (34, .d (.val (.bool (decide ((0 : Int) < i16_0)))))] [some ⟨1, (i16_1.map i64V).map (·.map .d)⟩] ?_
  refine AW.ts (decide ((0 : Int) < i16_0)) (fun hb20 => ?_) (fun hb20 => ?_)
  ·have h := ifT hb20 h
   refine AW.sk ?_
   refine AW.cu [0] [(2, .d (.val (.int .i64 i16_0))), (7, .msl 0 1 0 (i16_1.length))] [some ⟨1, (i16_1.map i64V).map (·.map .d)⟩] ?_
   refine AW.block ?_
   refine AW.one ?_
   refine AW.reg mixed (by kernel_rfl) ?_
   apply obindE h; intro z21 hx22 h
   try simp only [go_sem, reduceEqDiff, reduceAdd, reduceSub, reduceMul, reduceLeDiff, reduceLT, Nat.reduceBEq, reduceIte, bop_rem (P := Tryz.prog) (must_ne hx22)]
   apply obindE h; intro l23 hx24 h
   refine appR (f := i64V) hx24 rfl (by simp only [go_sem, reduceEqDiff, reduceAdd, reduceSub, reduceMul, reduceLeDiff, reduceLT, Nat.reduceBEq, reduceIte, bop_rem (P := Tryz.prog) (must_ne hx22)]) (by simp only [go_sem, reduceEqDiff, reduceAdd, reduceSub, reduceMul, reduceLeDiff, reduceLT, Nat.reduceBEq, reduceIte, bop_rem (P := Tryz.prog) (must_ne hx22)]) (by simp only [go_sem, reduceEqDiff, reduceAdd, reduceSub, reduceMul, reduceLeDiff, reduceLT, Nat.reduceBEq, reduceIte, bop_rem (P := Tryz.prog) (must_ne hx22)]) ?_
   try simp only [go_sem, reduceEqDiff, reduceAdd, reduceSub, reduceMul, reduceLeDiff, reduceLT, Nat.reduceBEq, reduceIte, bop_rem (P := Tryz.prog) (must_ne hx22)]
   refine AW.cut [5] [(2, .d (.val (.int .i64 i16_0))), (7, .msl 0 1 0 (l23.length))] [some ⟨1, (l23.map i64V).map (·.map .d)⟩] (by simp only [go_sem, reduceEqDiff, reduceAdd, reduceSub, reduceMul, reduceLeDiff, reduceLT, Nat.reduceBEq, reduceIte, bop_rem (P := Tryz.prog) (must_ne hx22)]) ?_
   refine AW.reg mixed (by kernel_rfl) ?_
   apply obindE h; intro z25 hx26 h
   try simp only [go_sem, reduceEqDiff, reduceAdd, reduceSub, reduceMul, reduceLeDiff, reduceLT, Nat.reduceBEq, reduceIte, bop_quo (P := Tryz.prog) (must_ne hx26)]
   refine NextQ.mk (IntKind.wrap .i64 (i16_0.tdiv (10000 : Int)), l23) [0] h (by simp only [go_sem, reduceEqDiff, reduceAdd, reduceSub, reduceMul, reduceLeDiff, reduceLT, Nat.reduceBEq, reduceIte, bop_quo (P := Tryz.prog) (must_ne hx26)])
  have h := ifF hb20 h
  refine AW.ex ?_
  exact JoinQ.ar i16_1 [0] (Option.some.inj h)
 rintro e17_0 rfl
 have h := hJ19
 try dsimp only [Out.fin] at h
 refine nz ?_
 refine AW.cu [0] [(7, .msl 0 1 0 (e17_0.length))] [some ⟨1, (e17_0.map i64V).map (·.map .d)⟩] ?_
 refine AW.op mixed ?_
 apply obindE h; intro r27 hx28 h
 have hc := nx (r01_trim_ok (h := hx28))
 refine callK_seal [0] hc ⟨sealArr (by simp only [go_sem, reduceEqDiff, reduceAdd, reduceSub, reduceMul, reduceLeDiff, reduceLT, Nat.reduceBEq, reduceIte]), trivial⟩ (by simp only [go_sem, reduceEqDiff, reduceAdd, reduceSub, reduceMul, reduceLeDiff, reduceLT, Nat.reduceBEq, reduceIte]) (by simp only [go_sem, reduceEqDiff, reduceAdd, reduceSub, reduceMul, reduceLeDiff, reduceLT, Nat.reduceBEq, reduceIte]) ?_
 try simp only [go_sem, reduceEqDiff, reduceAdd, reduceSub, reduceMul, reduceLeDiff, reduceLT, Nat.reduceBEq, reduceIte]
 refine AW.ret ?_
 obtain rfl := Option.some.inj h
 refine nz ?_
 exact .same _
/-! ### isochrone/isochroneref01.Of -/
def r01_Of (K : Nat) (p0 : List Int) : Option (List Int) := ((iter (S := (List Int) × Int) (R := (List Int)) K (fun again (i5_0, i5_1) =>
  if (decide ((0 : Int) ≤ i5_1)) then
   (idx p0 i5_1).bind fun x10 =>
   (must (decide ((0 : Int) ≤ (16 : Int)))).bind fun _ =>
   (r01_Small K i5_0 (65536 : Int) (IntKind.wrap .i64 (bShr .u32 x10 (16 : Int)))).bind fun r13 =>
   (r01_Small K r13 (65536 : Int) (IntKind.wrap .i64 (bAnd .u32 x10 (65535 : Int)))).bind fun r15 =>
   again (r15, IntKind.wrap .i64 (i5_1 - (1 : Int)))
  else
   some i5_0) (([] : List Int), IntKind.wrap .i64 ((p0.length : Int) - (1 : Int)))) : Option (List Int)).bind (fun e6_0 =>
 some e6_0)
set_option maxHeartbeats 4000000 in
theorem r01_Of_ok {K : Nat} {p0 : List Int} {r : (List Int)} (h : r01_Of K p0 = some r) : Cn Tryz.prog 74 [.d (slD u32V p0)] (.d (slD i64V r)) := by
 have q0 := fun k z => cv_int (k' := k) (z := z) Tryz.underlying86 Tryz.underlying3
 refine Cn.oz Tryz.func74 Tryz.call74 Tryz.ntmps74 Tryz.results74 fun hfit => ?_
 unfold r01_Of at h
 refine AW.kr [] [0] ?_
 refine AW.kr [] [0] ?_
 refine AW.ks [0] [0, 3] ?_
 refine AW.one ?_
 refine AW.ro ?_
 refine AW.ks [0] [0, 3, 4] ?_
 refine AW.cutS [] [0] [(3, .d (slD i64V ([] : List Int)))] [] [(0, vL u32V p0), (3, vL i64V ([] : List Int)), (4, vI (IntKind.wrap .i64 ((p0.length : Int) - (1 : Int))))] [] (by simp only [go_sem, reduceEqDiff, reduceAdd, reduceSub, reduceMul, reduceLeDiff, reduceLT, Nat.reduceBEq, reduceIte, sealL_cons, sealL_nil]; exact sealEmp (by simp only [go_sem, reduceEqDiff, reduceAdd, reduceSub, reduceMul, reduceLeDiff, reduceLT, Nat.reduceBEq, reduceIte])) (by simp only [go_sem, reduceEqDiff, reduceAdd, reduceSub, reduceMul, reduceLeDiff, reduceLT, Nat.reduceBEq, reduceIte, sealH_cons, sealH_nil]) (by simp only [go_sem, reduceEqDiff, reduceAdd, reduceSub, reduceMul, reduceLeDiff, reduceLT, Nat.reduceBEq, reduceIte]) ?_
 refine AW.lm h (fun e6_0 => [(3, vL i64V e6_0)]) (fun e6_0 => []) (fun (i5_0, i5_1) => [(0, vL u32V p0), (3, vL i64V i5_0), (4, vI i5_1)]) (fun (i5_0, i5_1) => []) [] (fun oJ8 again ⟨i5_0, i5_1⟩ h => ?_) fun e6_0 h => ?_
 ·try dsimp only at h
  refine AW.one ?_
  refine AW.ro ?_
  refine AW.ks [] [0, 3, 4, 10] ?_
  refine AW.tt h (fun hb9 h => ?_) fun hb9 h => ?_
  ·refine AW.sk ?_
   refine AW.ks [] [0, 3, 4] ?_
   refine AW.one ?_
   refine AW.block ?_
   refine AW.ro ?_
   refine bx h fun x10 h0 h1 h => ?_
   apply bE h; intro _ hx12 h; have hx12 := ms hx12; refine ns ?_
   refine cm h r01_Small_ok fun r13 hx14 h => ?_
   refine AW.ks [] [0, 3, 4] ?_
   refine AW.rp ?_
   refine cm h r01_Small_ok fun r15 hx16 h => ?_
   refine AW.ks [] [0, 3, 4] ?_
   refine AW.rp ?_
   exact na [] h
  refine AW.ex ?_
  exact ja [] h
 refine AW.kr [] [3] ?_
 refine AW.ret ?_
 cases h; refine nz ?_; exact .same _
structure Isochroneref02_RatA where
 neg : Bool
 n : List Int
 d : List Int
def Isochroneref02_RatA.enc (x : Isochroneref02_RatA) : List D := [.val (.bool x.neg), slD i64V x.n, slD i64V x.d]
theorem Isochroneref02_RatA.enc_eta (x : Isochroneref02_RatA) : x.enc = [.val (.bool x.neg), slD i64V x.n, slD i64V x.d] := rfl
attribute [go_sem] Isochroneref02_RatA.enc_eta
/-! ### isochrone/isochroneref02.Of -/
def r02_Of (K : Nat) (p0 : RatA) : Option Isochroneref02_RatA := (r01_Of K p0.num).bind fun r1 =>
 (r01_Of K p0.den).bind fun r3 =>
 some (Isochroneref02_RatA.mk p0.neg r1 r3)
set_option maxHeartbeats 4000000 in
theorem r02_Of_ok {K : Nat} {p0 : RatA} {r : Isochroneref02_RatA} (h : r02_Of K p0 = some r) : Cn Tryz.prog 34 [aggV p0.enc] (aggV r.enc) := by
 refine Cn.oz Tryz.func34 Tryz.call34 Tryz.ntmps34 Tryz.results34 fun hfit => ?_
 unfold r02_Of at h
 refine AW.kr [] [0] ?_
 refine AW.kr [0, 1] [1, 2] ?_
 refine pm h r01_Of_ok fun r1 hx2 h => ?_
 refine pm h r01_Of_ok fun r3 hx4 h => ?_
 refine AW.ret ?_
 cases h; refine nz ?_; exact .same _
/-! ### isochrone/isochroneref01.Cmp -/
def r01_Cmp (K : Nat) (p0 : List Int) (p1 : List Int) : Option Int := if ((p0.length : Int) != (p1.length : Int)) then
  if (decide ((p0.length : Int) < (p1.length : Int))) then
   some (-1 : Int)
  else
   some (1 : Int)
 else
  ((iter (S := Int) (R := Out Unit _) K (fun again i3_0 =>
   if (decide ((0 : Int) ≤ i3_0)) then
    (idx p0 i3_0).bind fun x8 =>
    (idx p1 i3_0).bind fun x10 =>
    if (x8 != x10) then
     if (decide (x8 < x10)) then
      outM (
       some (-1 : Int))
     else
      outM (
       some (1 : Int))
    else
     again (IntKind.wrap .i64 (i3_0 - (1 : Int)))
   else
    some (.go ())) (IntKind.wrap .i64 ((p0.length : Int) - (1 : Int)))) : Option (Out Unit _)).bind (Out.fin fun _ =>
  some (0 : Int))
set_option maxHeartbeats 4000000 in
theorem r01_Cmp_ok {K : Nat} {p0 : List Int} {p1 : List Int} {r : Int} (h : r01_Cmp K p0 p1 = some r) : Cn Tryz.prog 73 [.d (slD i64V p0), .d (slD i64V p1)] (.d (.val (.int .i64 r))) := by
 refine Cn.oz Tryz.func73 Tryz.call73 Tryz.ntmps73 Tryz.results73 fun hfit => ?_
 unfold r01_Cmp at h
 refine AW.kr [] [0, 1] ?_
 refine AW.ks [] [0, 1] ?_
 refine AW.one ?_
 refine AW.ro ?_
 refine AW.ks [] [0, 1, 10] ?_
 refine AW.tk h (fun hb1 h => ?_) fun hb1 h => ?_
 ·refine AW.one ?_
  refine AW.ro ?_
  refine AW.ks [] [15] ?_
  refine AW.tk h (fun hb2 h => ?_) fun hb2 h => ?_
  ·refine AW.ro ?_
   refine AW.ret ?_
   cases h; refine nz ?_; exact .same _
  refine AW.kr [] [] ?_
  refine AW.ret ?_
  cases h; refine nz ?_; exact .same _
 refine AW.ks [] [0, 1] ?_
 refine AW.one ?_
 refine AW.ro ?_
 refine AW.ks [] [0, 1, 5] ?_
 refine AW.lp h (fun _ => []) (fun _ => []) (fun i3_0 => [(0, vL i64V p0), (1, vL i64V p1), (5, vI i3_0)]) (fun i3_0 => []) [] (fun oJ6 hJ6 again i3_0 h => ?_) fun ⟨⟩ h => ?_
 ·refine AW.one ?_
  refine AW.ro ?_
  refine AW.ks [] [0, 1, 5, 20] ?_
  refine AW.tt h (fun hb7 h => ?_) fun hb7 h => ?_
  ·refine AW.sk ?_
   refine AW.ks [] [0, 1, 5] ?_
   refine AW.one ?_
   refine AW.block ?_
   refine AW.ro ?_
   refine bx h fun x8 h0 h1 h => ?_
   refine bx h fun x10 h0 h1 h => ?_
   refine AW.ks [] [0, 1, 5, 31] ?_
   refine AW.tk h (fun hb12 h => ?_) fun hb12 h => ?_
   ·refine AW.one ?_
    refine AW.ro ?_
    refine AW.ks [] [40] ?_
    refine AW.tk h (fun hb13 h => ?_) fun hb13 h => ?_
    ·refine AW.ro ?_
     refine AW.ret ?_
     have h := up h hJ6
     cases h; refine nz ?_; exact .same _
    refine AW.kr [] [] ?_
    refine AW.ret ?_
    have h := up h hJ6
    cases h; refine nz ?_; exact .same _
   refine AW.ks [] [0, 1, 5] ?_
   refine AW.rp ?_
   exact na [] h
  refine AW.ex ?_
  exact jo [] h
 refine AW.kr [] [] ?_
 refine AW.ret ?_
 cases h; refine nz ?_; exact .same _
/-! ### isochrone/isochroneref01.Text -/
def r01_Text (K : Nat) (p0 : List Int) : Option ByteArray := if ((p0.length : Int) == (0 : Int)) then
  some (⟨#[48]⟩ : ByteArray)
 else
  ((iter (S := Int × (List Int)) (R := (List Int)) K (fun again (i2_0, i2_1) =>
   if (decide ((0 : Int) ≤ i2_0)) then
    ((iter (S := Int × (List Int)) (R := (List Int)) K (fun again (i7_0, i7_1) =>
     if (decide ((0 : Int) < i7_0)) then
      ((
       (idx p0 i2_0).bind fun x14 =>
       (must (i7_0 != 0)).bind fun z16 =>
       (must ((10 : Int) != 0)).bind fun z18 =>
       ((
        if (decide ((0 : Int) < (i7_1.length : Int))) then
         some true
        else
         some (decide ((0 : Int) < ((IntKind.wrap .i64 (x14.tdiv i7_0)).tmod (10 : Int))))) : Option Bool).bind (fun v20_0 =>
       if v20_0 then
        (appO 1 i7_1 [IntKind.wrap .u8 (IntKind.wrap .i64 ((48 : Int) + ((IntKind.wrap .i64 (x14.tdiv i7_0)).tmod (10 : Int))))]).bind fun l24 =>
        some l24
       else
        some i7_1)) : Option (List Int)).bind (fun v12_0 =>
      (must ((10 : Int) != 0)).bind fun z26 =>
      again (IntKind.wrap .i64 (i7_0.tdiv (10 : Int)), v12_0))
     else
      some i7_1) ((1000 : Int), i2_1)) : Option (List Int)).bind (fun e8_0 =>
    again (IntKind.wrap .i64 (i2_0 - (1 : Int)), e8_0))
   else
    some i2_1) (IntKind.wrap .i64 ((p0.length : Int) - (1 : Int)), [])) : Option (List Int)).bind (fun e3_0 =>
  some (strOfNums e3_0))
set_option maxHeartbeats 4000000 in
theorem r01_Text_ok {K : Nat} {p0 : List Int} {r : ByteArray} (h : r01_Text K p0 = some r) : Cn Tryz.prog 72 [.d (slD i64V p0)] (.d (.val (.string r))) := by
 refine Cn.ofA mixed Tryz.func72 rfl Tryz.call72 Tryz.ntmps72 Tryz.results72 (by simp) (by simp only [go_sem, reduceEqDiff, reduceAdd, reduceSub, reduceMul, reduceLeDiff, reduceLT, Nat.reduceBEq, reduceIte]) fun hfit => ?_
 unfold r01_Text at h
 refine AW.kp [] [0] ?_
 refine AW.op mixed ?_
 refine AW.kp [] [0] ?_
 refine AW.one ?_
 refine AW.op mixed ?_
 refine AW.kp [] [0, 9] ?_
 refine AW.ts ((p0.length : Int) == (0 : Int)) (fun hb1 => ?_) (fun hb1 => ?_)
 ·have h := ifT hb1 h
  refine AW.op mixed ?_
  refine AW.ret ?_
  obtain rfl := Option.some.inj h
  refine nz ?_
  exact .same _
 have h := ifF hb1 h
 refine AW.sk ?_
 refine AW.kp [] [0] ?_
 refine AW.op mixed ?_
 refine AW.kp [] [0, 3] ?_
 refine AW.one ?_
 refine AW.op mixed ?_
 refine AW.kp [] [0, 3, 4] ?_
 refine obindE h fun oJ5 h hJ5 => ?_
 refine AW.join (S := (List Int)) (fun e3_0 => [(3, accV 0 1 ((e3_0.map (fun x : Int => [D.val (.int .u8 x)])).map (·.map .d)))]) (fun e3_0 => [accO 1 ((e3_0.map (fun x : Int => [D.val (.int .u8 x)])).map (·.map .d))]) (fun x => x = oJ5) ?_ ?_
 ·refine AW.block ?_
  refine AW.iter (S := Int × (List Int)) (fun (i2_0, i2_1) => [(0, .d (slD i64V p0)), (3, accV 0 1 ((i2_1.map (fun x : Int => [D.val (.int .u8 x)])).map (·.map .d))), (4, .d (.val (.int .i64 i2_0)))]) (fun (i2_0, i2_1) => [accO 1 ((i2_1.map (fun x : Int => [D.val (.int .u8 x)])).map (·.map .d))]) [1000] h (by simp only [go_sem, reduceEqDiff, reduceAdd, reduceSub, reduceMul, reduceLeDiff, reduceLT, Nat.reduceBEq, reduceIte]) ?_
  rintro again ⟨i2_0, i2_1⟩ h
  try dsimp only at h
  refine AW.one ?_
  refine AW.op mixed ?_
  refine AW.cu [0] [(0, .d (slD i64V p0)), (3, accV 0 1 ((i2_1.map (fun x : Int => [D.val (.int .u8 x)])).map (·.map .d))), (4, .d (.val (.int .i64 i2_0))), (14, .d (.val (.bool (decide ((0 : Int) ≤ i2_0)))))] [accO 1 ((i2_1.map (fun x : Int => [D.val (.int .u8 x)])).map (·.map .d))] ?_
  refine AW.ts (decide ((0 : Int) ≤ i2_0)) (fun hb6 => ?_) (fun hb6 => ?_)
  ·have h := ifT hb6 h
   refine AW.sk ?_
   refine AW.cu [0] [(0, .d (slD i64V p0)), (3, accV 0 1 ((i2_1.map (fun x : Int => [D.val (.int .u8 x)])).map (·.map .d))), (4, .d (.val (.int .i64 i2_0)))] [accO 1 ((i2_1.map (fun x : Int => [D.val (.int .u8 x)])).map (·.map .d))] ?_
   refine AW.one ?_
   refine AW.block ?_
   refine AW.op mixed ?_
   refine AW.cu [0] [(0, .d (slD i64V p0)), (3, accV 0 1 ((i2_1.map (fun x : Int => [D.val (.int .u8 x)])).map (·.map .d))), (4, .d (.val (.int .i64 i2_0))), (5, .d (.val (.int .i64 (1000 : Int))))] [accO 1 ((i2_1.map (fun x : Int => [D.val (.int .u8 x)])).map (·.map .d))] ?_
   refine obindE h fun oJ10 h hJ10 => ?_
   refine AW.join (S := (List Int)) (fun e8_0 => [(0, .d (slD i64V p0)), (3, accV 0 1 ((e8_0.map (fun x : Int => [D.val (.int .u8 x)])).map (·.map .d))), (4, .d (.val (.int .i64 i2_0)))]) (fun e8_0 => [accO 1 ((e8_0.map (fun x : Int => [D.val (.int .u8 x)])).map (·.map .d))]) (fun x => x = oJ10) ?_ ?_
   ·refine AW.block ?_
    refine AW.iter (S := Int × (List Int)) (fun (i7_0, i7_1) => [(0, .d (slD i64V p0)), (3, accV 0 1 ((i7_1.map (fun x : Int => [D.val (.int .u8 x)])).map (·.map .d))), (4, .d (.val (.int .i64 i2_0))), (5, .d (.val (.int .i64 i7_0)))]) (fun (i7_0, i7_1) => [accO 1 ((i7_1.map (fun x : Int => [D.val (.int .u8 x)])).map (·.map .d))]) [0] h (by simp only [go_sem, reduceEqDiff, reduceAdd, reduceSub, reduceMul, reduceLeDiff, reduceLT, Nat.reduceBEq, reduceIte]) ?_
    rintro again ⟨i7_0, i7_1⟩ h
    try dsimp only at h
    refine AW.one ?_
    refine AW.op mixed ?_
    refine AW.cu [0] [(0, .d (slD i64V p0)), (3, accV 0 1 ((i7_1.map (fun x : Int => [D.val (.int .u8 x)])).map (·.map .d))), (4, .d (.val (.int .i64 i2_0))), (5, .d (.val (.int .i64 i7_0))), (18, .d (.val (.bool (decide ((0 : Int) < i7_0)))))] [accO 1 ((i7_1.map (fun x : Int => [D.val (.int .u8 x)])).map (·.map .d))] ?_
    refine AW.ts (decide ((0 : Int) < i7_0)) (fun hb11 => ?_) (fun hb11 => ?_)
    ·have h := ifT hb11 h
     refine AW.sk ?_
     refine AW.cu [0] [(0, .d (slD i64V p0)), (3, accV 0 1 ((i7_1.map (fun x : Int => [D.val (.int .u8 x)])).map (·.map .d))), (4, .d (.val (.int .i64 i2_0))), (5, .d (.val (.int .i64 i7_0)))] [accO 1 ((i7_1.map (fun x : Int => [D.val (.int .u8 x)])).map (·.map .d))] ?_
     refine AW.one ?_
     refine obindE h fun oJ13 h hJ13 => ?_
     refine AW.join (S := (List Int)) (fun v12_0 => [(0, .d (slD i64V p0)), (3, accV 0 1 ((v12_0.map (fun x : Int => [D.val (.int .u8 x)])).map (·.map .d))), (4, .d (.val (.int .i64 i2_0))), (5, .d (.val (.int .i64 i7_0)))]) (fun v12_0 => [accO 1 ((v12_0.map (fun x : Int => [D.val (.int .u8 x)])).map (·.map .d))]) (fun x => x = oJ13) ?_ ?_
     ·skip
      refine AW.block ?_
      refine AW.one ?_
      refine AW.reg mixed (by kernel_rfl) ?_
      apply obindE h; intro x14 hx15 h
      apply obindE h; intro z16 hx17 h
      apply obindE h; intro z18 hx19 h
      try simp only [go_sem, reduceEqDiff, reduceAdd, reduceSub, reduceMul, reduceLeDiff, reduceLT, Nat.reduceBEq, reduceIte, (idx_some hx15).1, (idx_some hx15).2, bop_quo (P := Tryz.prog) (must_ne hx17), bop_rem (P := Tryz.prog) (must_ne hx19)]
      refine AW.cut [0] [(0, .d (slD i64V p0)), (3, accV 0 1 ((i7_1.map (fun x : Int => [D.val (.int .u8 x)])).map (·.map .d))), (4, .d (.val (.int .i64 i2_0))), (5, .d (.val (.int .i64 i7_0))), (6, .d (.val (.int .i64 ((IntKind.wrap .i64 (x14.tdiv i7_0)).tmod (10 : Int)))))] [accO 1 ((i7_1.map (fun x : Int => [D.val (.int .u8 x)])).map (·.map .d))] (by simp only [go_sem, reduceEqDiff, reduceAdd, reduceSub, reduceMul, reduceLeDiff, reduceLT, Nat.reduceBEq, reduceIte, (idx_some hx15).1, (idx_some hx15).2, bop_quo (P := Tryz.prog) (must_ne hx17), bop_rem (P := Tryz.prog) (must_ne hx19)]) ?_
      refine AW.one ?_
      refine obindE h fun oJ21 h hJ21 => ?_
      refine AW.join (S := Bool) (fun v20_0 => [(0, .d (slD i64V p0)), (3, accV 0 1 ((i7_1.map (fun x : Int => [D.val (.int .u8 x)])).map (·.map .d))), (4, .d (.val (.int .i64 i2_0))), (5, .d (.val (.int .i64 i7_0))), (6, .d (.val (.int .i64 ((IntKind.wrap .i64 (x14.tdiv i7_0)).tmod (10 : Int))))), (34, .d (.val (.bool v20_0)))]) (fun v20_0 => [accO 1 ((i7_1.map (fun x : Int => [D.val (.int .u8 x)])).map (·.map .d))]) (fun x => x = oJ21) ?_ ?_
      ·skip
       refine AW.rg mixed ?_
       refine splitK_intro (fun hb22 => ?_) (fun hb22 => ?_)
       ·have h := ifT hb22 h
        try simp only [go_sem, reduceEqDiff, reduceAdd, reduceSub, reduceMul, reduceLeDiff, reduceLT, Nat.reduceBEq, reduceIte, hb22]
        refine JoinQ.mk true [0] (Option.some.inj h) (by simp only [go_sem, reduceEqDiff, reduceAdd, reduceSub, reduceMul, reduceLeDiff, reduceLT, Nat.reduceBEq, reduceIte, hb22])
       have h := ifF hb22 h
       try simp only [go_sem, reduceEqDiff, reduceAdd, reduceSub, reduceMul, reduceLeDiff, reduceLT, Nat.reduceBEq, reduceIte, hb22]
       refine JoinQ.mk (decide ((0 : Int) < ((IntKind.wrap .i64 (x14.tdiv i7_0)).tmod (10 : Int)))) [0] (Option.some.inj h) (by simp only [go_sem, reduceEqDiff, reduceAdd, reduceSub, reduceMul, reduceLeDiff, reduceLT, Nat.reduceBEq, reduceIte, hb22])
      rintro v20_0 rfl
      have h := hJ21
      try dsimp only [Out.fin] at h
      refine nz ?_
      refine AW.ts v20_0 (fun hb23 => ?_) (fun hb23 => ?_)
      ·have h := ifT hb23 h
       refine AW.reg mixed (by kernel_rfl) ?_
       try simp only [go_sem, reduceEqDiff, reduceAdd, reduceSub, reduceMul, reduceLeDiff, reduceLT, Nat.reduceBEq, reduceIte, cv_int (P := Tryz.prog) Tryz.underlying3 Tryz.underlying5]
       apply obindE h; intro l24 hx25 h
       refine appG (f := (fun x : Int => [D.val (.int .u8 x)])) hx25 rfl (by simp only [go_sem, reduceEqDiff, reduceAdd, reduceSub, reduceMul, reduceLeDiff, reduceLT, Nat.reduceBEq, reduceIte, cv_int (P := Tryz.prog) Tryz.underlying3 Tryz.underlying5]) (srcMsl (by simp only [go_sem, reduceEqDiff, reduceAdd, reduceSub, reduceMul, reduceLeDiff, reduceLT, Nat.reduceBEq, reduceIte, cv_int (P := Tryz.prog) Tryz.underlying3 Tryz.underlying5]) rfl) (by simp only [go_sem, reduceEqDiff, reduceAdd, reduceSub, reduceMul, reduceLeDiff, reduceLT, Nat.reduceBEq, reduceIte, cv_int (P := Tryz.prog) Tryz.underlying3 Tryz.underlying5]) (by simp) ?_
       try simp only [go_sem, reduceEqDiff, reduceAdd, reduceSub, reduceMul, reduceLeDiff, reduceLT, Nat.reduceBEq, reduceIte, cv_int (P := Tryz.prog) Tryz.underlying3 Tryz.underlying5]
       refine JoinQ.mk l24 [6] (Option.some.inj h) (by simp only [go_sem, reduceEqDiff, reduceAdd, reduceSub, reduceMul, reduceLeDiff, reduceLT, Nat.reduceBEq, reduceIte, cv_int (P := Tryz.prog) Tryz.underlying3 Tryz.underlying5])
      have h := ifF hb23 h
      refine AW.sk ?_
      exact JoinQ.ar i7_1 [0] (Option.some.inj h)
     rintro v12_0 rfl
     have h := hJ13
     try dsimp only [Out.fin] at h
     refine nz ?_
     refine AW.reg mixed (by kernel_rfl) ?_
     apply obindE h; intro z26 hx27 h
     try simp only [go_sem, reduceEqDiff, reduceAdd, reduceSub, reduceMul, reduceLeDiff, reduceLT, Nat.reduceBEq, reduceIte, bop_quo (P := Tryz.prog) (must_ne hx27)]
     refine NextQ.mk (IntKind.wrap .i64 (i7_0.tdiv (10 : Int)), v12_0) [0] h (by simp only [go_sem, reduceEqDiff, reduceAdd, reduceSub, reduceMul, reduceLeDiff, reduceLT, Nat.reduceBEq, reduceIte, bop_quo (P := Tryz.prog) (must_ne hx27)])
    have h := ifF hb11 h
    refine AW.ex ?_
    exact JoinQ.ar i7_1 [0] (Option.some.inj h)
   rintro e8_0 rfl
   have h := hJ10
   try dsimp only [Out.fin] at h
   refine nz ?_
   refine AW.cu [0] [(0, .d (slD i64V p0)), (3, accV 0 1 ((e8_0.map (fun x : Int => [D.val (.int .u8 x)])).map (·.map .d))), (4, .d (.val (.int .i64 i2_0)))] [accO 1 ((e8_0.map (fun x : Int => [D.val (.int .u8 x)])).map (·.map .d))] ?_
   refine AW.rg mixed ?_
   exact NextQ.ar (IntKind.wrap .i64 (i2_0 - (1 : Int)), e8_0) [0] h
  have h := ifF hb6 h
  refine AW.ex ?_
  exact JoinQ.ar i2_1 [0] (Option.some.inj h)
 rintro e3_0 rfl
 have h := hJ5
 try dsimp only [Out.fin] at h
 refine nz ?_
 refine AW.cu [0] [(3, accV 0 1 ((e3_0.map (fun x : Int => [D.val (.int .u8 x)])).map (·.map .d)))] [accO 1 ((e3_0.map (fun x : Int => [D.val (.int .u8 x)])).map (·.map .d))] ?_
 refine AW.op mixed ?_
 refine cnvG rfl (by kernel_rfl) (by simp only [go_sem, reduceEqDiff, reduceAdd, reduceSub, reduceMul, reduceLeDiff, reduceLT, Nat.reduceBEq, reduceIte]) ?_
 try simp only [go_sem, reduceEqDiff, reduceAdd, reduceSub, reduceMul, reduceLeDiff, reduceLT, Nat.reduceBEq, reduceIte]
 refine AW.ret ?_
 obtain rfl := Option.some.inj h
 refine nz ?_
 exact .same _
/-! ### isochrone/isochroneref02.Text -/
def r02_Text (K : Nat) (p0 : Isochroneref02_RatA) : Option ByteArray := (r01_Text K p0.n).bind fun r1 =>
 ((
  if p0.neg then
   (catO (⟨#[45]⟩ : ByteArray) r1).bind fun s6 =>
   some s6
  else
   some r1) : Option ByteArray).bind (fun v3_0 =>
 (r01_Cmp K p0.d [(1 : Int)]).bind fun r8 =>
 if (r8 != (0 : Int)) then
  (r01_Text K p0.d).bind fun r11 =>
  (catO (⟨#[47]⟩ : ByteArray) r11).bind fun s13 =>
  (catO v3_0 s13).bind fun s15 =>
  some s15
 else
  some v3_0)
set_option maxHeartbeats 4000000 in
theorem r02_Text_ok {K : Nat} {p0 : Isochroneref02_RatA} {r : ByteArray} (h : r02_Text K p0 = some r) : Cn Tryz.prog 33 [aggV p0.enc] (.d (.val (.string r))) := by
 refine Cn.oz Tryz.func33 Tryz.call33 Tryz.ntmps33 Tryz.results33 fun hfit => ?_
 unfold r02_Text at h
 refine AW.kr [] [0] ?_
 refine AW.kr [0] [1] ?_
 refine cm h r01_Text_ok fun r1 hx2 h => ?_
 refine AW.ks [0] [1, 3] ?_
 refine AW.jn h (fun v3_0 => [(1, .ptr 0 3 0 0), (3, vS v3_0)]) (fun v3_0 => [vE p0.enc]) (fun oJ4 h => ?_) fun v3_0 h => ?_
 ·refine AW.ro ?_
  refine AW.ks [0] [1, 3, 8] ?_
  refine AW.tk h (fun hb5 h => ?_) fun hb5 h => ?_
  ·refine AW.rp ?_
   apply bE h; intro s6 hx7 h; have hx7 := bt hx7; refine ns ?_
   exact ja [0] h
  exact ja [0] h
 refine AW.one ?_
 refine AW.ro ?_
 refine cm h r01_Cmp_ok fun r8 hx9 h => ?_
 refine AW.ks [0] [1, 3, 15] ?_
 refine AW.tk h (fun hb10 h => ?_) fun hb10 h => ?_
 ·refine AW.rp ?_
  refine cm h r01_Text_ok fun r11 hx12 h => ?_
  apply bE h; intro s13 hx14 h; have hx14 := bt hx14; refine ns ?_
  apply bE h; intro s15 hx16 h; have hx16 := bt hx16; refine ns ?_
  refine AW.kr [] [3] ?_
  refine AW.ret ?_
  cases h; refine nz ?_; exact .same _
 refine AW.kr [] [3] ?_
 refine AW.ret ?_
 cases h; refine nz ?_; exact .same _
/-! ### isochrone/isochroneref09.infix -/
def r09_infix (K : Nat) (p0 : Int) : Option ByteArray := if (p0 == (5 : Int)) then
  some (⟨#[43]⟩ : ByteArray)
 else
  if (p0 == (6 : Int)) then
   some (⟨#[45]⟩ : ByteArray)
  else
   if (p0 == (7 : Int)) then
    some (⟨#[42]⟩ : ByteArray)
   else
    if (p0 == (8 : Int)) then
     some (⟨#[47]⟩ : ByteArray)
    else
     if (p0 == (9 : Int)) then
      some (⟨#[94]⟩ : ByteArray)
     else
      if (p0 == (29 : Int)) then
       some (⟨#[38]⟩ : ByteArray)
      else
       if (p0 == (30 : Int)) then
        some (⟨#[124]⟩ : ByteArray)
       else
        if (p0 == (31 : Int)) then
         some (⟨#[45, 62]⟩ : ByteArray)
        else
         if (p0 == (32 : Int)) then
          some (⟨#[60, 45, 62]⟩ : ByteArray)
         else
          if (p0 == (22 : Int)) then
           some (⟨#[61]⟩ : ByteArray)
          else
           if (p0 == (23 : Int)) then
            some (⟨#[33, 61]⟩ : ByteArray)
           else
            if (p0 == (24 : Int)) then
             some (⟨#[60]⟩ : ByteArray)
            else
             if (p0 == (25 : Int)) then
              some (⟨#[60, 61]⟩ : ByteArray)
             else
              if (p0 == (26 : Int)) then
               some (⟨#[62]⟩ : ByteArray)
              else
               if (p0 == (27 : Int)) then
                some (⟨#[62, 61]⟩ : ByteArray)
               else
                some (⟨#[]⟩ : ByteArray)
set_option maxHeartbeats 4000000 in
theorem r09_infix_ok {K : Nat} {p0 : Int} {r : ByteArray} (h : r09_infix K p0 = some r) : Cn Tryz.prog 35 [.d (.val (.int .i64 p0))] (.d (.val (.string r))) := by
 refine Cn.oz Tryz.func35 Tryz.call35 Tryz.ntmps35 Tryz.results35 fun hfit => ?_
 unfold r09_infix at h
 refine AW.kr [] [0] ?_
 refine AW.ks [] [0] ?_
 refine AW.one ?_
 refine AW.ro ?_
 refine AW.ks [] [3] ?_
 refine AW.block ?_
 refine AW.ro ?_
 refine AW.ks [] [3, 4] ?_
 refine AW.tt h (fun hb1 h => ?_) fun hb1 h => ?_
 ·refine AW.ro ?_
  refine AW.ret ?_
  cases h; refine nz ?_; exact .same _
 refine AW.ro ?_
 refine AW.ks [] [3, 6] ?_
 refine AW.tt h (fun hb2 h => ?_) fun hb2 h => ?_
 ·refine AW.ro ?_
  refine AW.ret ?_
  cases h; refine nz ?_; exact .same _
 refine AW.ro ?_
 refine AW.ks [] [3, 8] ?_
 refine AW.tt h (fun hb3 h => ?_) fun hb3 h => ?_
 ·refine AW.ro ?_
  refine AW.ret ?_
  cases h; refine nz ?_; exact .same _
 refine AW.ro ?_
 refine AW.ks [] [3, 10] ?_
 refine AW.tt h (fun hb4 h => ?_) fun hb4 h => ?_
 ·refine AW.ro ?_
  refine AW.ret ?_
  cases h; refine nz ?_; exact .same _
 refine AW.ro ?_
 refine AW.ks [] [3, 12] ?_
 refine AW.tt h (fun hb5 h => ?_) fun hb5 h => ?_
 ·refine AW.ro ?_
  refine AW.ret ?_
  cases h; refine nz ?_; exact .same _
 refine AW.ro ?_
 refine AW.ks [] [3, 14] ?_
 refine AW.tt h (fun hb6 h => ?_) fun hb6 h => ?_
 ·refine AW.ro ?_
  refine AW.ret ?_
  cases h; refine nz ?_; exact .same _
 refine AW.ro ?_
 refine AW.ks [] [3, 16] ?_
 refine AW.tt h (fun hb7 h => ?_) fun hb7 h => ?_
 ·refine AW.ro ?_
  refine AW.ret ?_
  cases h; refine nz ?_; exact .same _
 refine AW.ro ?_
 refine AW.ks [] [3, 18] ?_
 refine AW.tt h (fun hb8 h => ?_) fun hb8 h => ?_
 ·refine AW.ro ?_
  refine AW.ret ?_
  cases h; refine nz ?_; exact .same _
 refine AW.ro ?_
 refine AW.ks [] [3, 20] ?_
 refine AW.tt h (fun hb9 h => ?_) fun hb9 h => ?_
 ·refine AW.ro ?_
  refine AW.ret ?_
  cases h; refine nz ?_; exact .same _
 refine AW.ro ?_
 refine AW.ks [] [3, 22] ?_
 refine AW.tt h (fun hb10 h => ?_) fun hb10 h => ?_
 ·refine AW.ro ?_
  refine AW.ret ?_
  cases h; refine nz ?_; exact .same _
 refine AW.ro ?_
 refine AW.ks [] [3, 24] ?_
 refine AW.tt h (fun hb11 h => ?_) fun hb11 h => ?_
 ·refine AW.ro ?_
  refine AW.ret ?_
  cases h; refine nz ?_; exact .same _
 refine AW.ro ?_
 refine AW.ks [] [3, 26] ?_
 refine AW.tt h (fun hb12 h => ?_) fun hb12 h => ?_
 ·refine AW.ro ?_
  refine AW.ret ?_
  cases h; refine nz ?_; exact .same _
 refine AW.ro ?_
 refine AW.ks [] [3, 28] ?_
 refine AW.tt h (fun hb13 h => ?_) fun hb13 h => ?_
 ·refine AW.ro ?_
  refine AW.ret ?_
  cases h; refine nz ?_; exact .same _
 refine AW.ro ?_
 refine AW.ks [] [3, 30] ?_
 refine AW.tt h (fun hb14 h => ?_) fun hb14 h => ?_
 ·refine AW.ro ?_
  refine AW.ret ?_
  cases h; refine nz ?_; exact .same _
 refine AW.ro ?_
 refine AW.ks [] [32] ?_
 refine AW.tk h (fun hb15 h => ?_) fun hb15 h => ?_
 ·refine AW.ro ?_
  refine AW.ret ?_
  cases h; refine nz ?_; exact .same _
 refine AW.kr [] [] ?_
 refine AW.ret ?_
 cases h; refine nz ?_; exact .same _
/-! ### isochrone/isochroneref09.show -/
def r09_show_body (K : Nat) (self20 : NodeA → Option ByteArray) (p0 : NodeA) : Option ByteArray := if (p0.op == (1 : Int)) then
  (r02_Of K p0.num).bind fun r2 =>
  (r02_Text K r2).bind fun r4 =>
  some r4
 else
  ((
   if (p0.op == (2 : Int)) then
    some (p0.op == (2 : Int))
   else
    some (p0.op == (61 : Int))) : Option Bool).bind (fun v6_0 =>
  if v6_0 then
   some p0.name
  else
   if (p0.op == (3 : Int)) then
    (catO p0.name (⟨#[39]⟩ : ByteArray)).bind fun s11 =>
    some s11
   else
    if (p0.op == (4 : Int)) then
     (idx p0.kids (0 : Int)).bind fun x14 =>
     (self20 (x14)).bind fun r16 =>
     (catO (⟨#[40, 45]⟩ : ByteArray) r16).bind fun s18 =>
     (catO s18 (⟨#[41]⟩ : ByteArray)).bind fun s20 =>
     some s20
    else
     ((
      if (p0.op == (5 : Int)) then
       some (p0.op == (5 : Int))
      else
       if (p0.op == (6 : Int)) then
        some (p0.op == (6 : Int))
       else
        if (p0.op == (7 : Int)) then
         some (p0.op == (7 : Int))
        else
         if (p0.op == (8 : Int)) then
          some (p0.op == (8 : Int))
         else
          if (p0.op == (9 : Int)) then
           some (p0.op == (9 : Int))
          else
           if (p0.op == (29 : Int)) then
            some (p0.op == (29 : Int))
           else
            if (p0.op == (30 : Int)) then
             some (p0.op == (30 : Int))
            else
             if (p0.op == (31 : Int)) then
              some (p0.op == (31 : Int))
             else
              some (p0.op == (32 : Int))) : Option Bool).bind (fun v22_0 =>
     if v22_0 then
      (idx p0.kids (0 : Int)).bind fun x33 =>
      (self20 (x33)).bind fun r35 =>
      (catO (⟨#[40]⟩ : ByteArray) r35).bind fun s37 =>
      (catO s37 (⟨#[32]⟩ : ByteArray)).bind fun s39 =>
      (r09_infix K p0.op).bind fun r41 =>
      (catO s39 r41).bind fun s43 =>
      (catO s43 (⟨#[32]⟩ : ByteArray)).bind fun s45 =>
      (idx p0.kids (1 : Int)).bind fun x47 =>
      (self20 (x47)).bind fun r49 =>
      (catO s45 r49).bind fun s51 =>
      (catO s51 (⟨#[41]⟩ : ByteArray)).bind fun s53 =>
      some s53
     else
      ((
       if (p0.op == (22 : Int)) then
        some (p0.op == (22 : Int))
       else
        if (p0.op == (23 : Int)) then
         some (p0.op == (23 : Int))
        else
         if (p0.op == (24 : Int)) then
          some (p0.op == (24 : Int))
         else
          if (p0.op == (25 : Int)) then
           some (p0.op == (25 : Int))
          else
           if (p0.op == (26 : Int)) then
            some (p0.op == (26 : Int))
           else
            some (p0.op == (27 : Int))) : Option Bool).bind (fun v55_0 =>
      if v55_0 then
       (idx p0.kids (0 : Int)).bind fun x63 =>
       (self20 (x63)).bind fun r65 =>
       (catO r65 (⟨#[32]⟩ : ByteArray)).bind fun s67 =>
       (r09_infix K p0.op).bind fun r69 =>
       (catO s67 r69).bind fun s71 =>
       (catO s71 (⟨#[32]⟩ : ByteArray)).bind fun s73 =>
       (idx p0.kids (1 : Int)).bind fun x75 =>
       (self20 (x75)).bind fun r77 =>
       (catO s73 r77).bind fun s79 =>
       some s79
      else
       ((
        if (p0.op == (10 : Int)) then
         some (p0.op == (10 : Int))
        else
         some (p0.op == (37 : Int))) : Option Bool).bind (fun v81_0 =>
       if v81_0 then
        if ((p0.kids.length : Int) == (0 : Int)) then
         (catO p0.name (⟨#[40, 41]⟩ : ByteArray)).bind fun s86 =>
         some s86
        else
         (catO p0.name (⟨#[40]⟩ : ByteArray)).bind fun s88 =>
         (idx p0.kids (0 : Int)).bind fun x90 =>
         (self20 (x90)).bind fun r92 =>
         (catO s88 r92).bind fun s94 =>
         (catO s94 (⟨#[41]⟩ : ByteArray)).bind fun s96 =>
         some s96
       else
        ((
         if (p0.op == (11 : Int)) then
          some (p0.op == (11 : Int))
         else
          some (p0.op == (38 : Int))) : Option Bool).bind (fun v98_0 =>
        if v98_0 then
         (catO p0.name (⟨#[123, 125]⟩ : ByteArray)).bind fun s102 =>
         some s102
        else
         if (p0.op == (12 : Int)) then
          (idx p0.kids (0 : Int)).bind fun x105 =>
          (self20 (x105)).bind fun r107 =>
          (catO (⟨#[40]⟩ : ByteArray) r107).bind fun s109 =>
          (catO s109 (⟨#[41, 39]⟩ : ByteArray)).bind fun s111 =>
          some s111
         else
          if (p0.op == (13 : Int)) then
           some (⟨#[95]⟩ : ByteArray)
          else
           if (p0.op == (20 : Int)) then
            some (⟨#[116, 114, 117, 101]⟩ : ByteArray)
           else
            if (p0.op == (21 : Int)) then
             some (⟨#[102, 97, 108, 115, 101]⟩ : ByteArray)
            else
             if (p0.op == (28 : Int)) then
              (idx p0.kids (0 : Int)).bind fun x117 =>
              (self20 (x117)).bind fun r119 =>
              (catO (⟨#[33]⟩ : ByteArray) r119).bind fun s121 =>
              some s121
             else
              if (p0.op == (33 : Int)) then
               (catO (⟨#[102, 111, 114, 97, 108, 108, 32]⟩ : ByteArray) p0.name).bind fun s124 =>
               (catO s124 (⟨#[46, 32]⟩ : ByteArray)).bind fun s126 =>
               (idx p0.kids (0 : Int)).bind fun x128 =>
               (self20 (x128)).bind fun r130 =>
               (catO s126 r130).bind fun s132 =>
               some s132
              else
               if (p0.op == (34 : Int)) then
                (catO (⟨#[101, 120, 105, 115, 116, 115, 32]⟩ : ByteArray) p0.name).bind fun s135 =>
                (catO s135 (⟨#[46, 32]⟩ : ByteArray)).bind fun s137 =>
                (idx p0.kids (0 : Int)).bind fun x139 =>
                (self20 (x139)).bind fun r141 =>
                (catO s137 r141).bind fun s143 =>
                some s143
               else
                if (p0.op == (35 : Int)) then
                 (idx p0.kids (0 : Int)).bind fun x146 =>
                 (self20 (x146)).bind fun r148 =>
                 (catO (⟨#[91]⟩ : ByteArray) r148).bind fun s150 =>
                 (catO s150 (⟨#[93]⟩ : ByteArray)).bind fun s152 =>
                 (idx p0.kids (1 : Int)).bind fun x154 =>
                 (self20 (x154)).bind fun r156 =>
                 (catO s152 r156).bind fun s158 =>
                 some s158
                else
                 if (p0.op == (36 : Int)) then
                  (idx p0.kids (0 : Int)).bind fun x161 =>
                  (self20 (x161)).bind fun r163 =>
                  (catO (⟨#[60, 124]⟩ : ByteArray) r163).bind fun s165 =>
                  (catO s165 (⟨#[124, 62]⟩ : ByteArray)).bind fun s167 =>
                  (idx p0.kids (1 : Int)).bind fun x169 =>
                  (self20 (x169)).bind fun r171 =>
                  (catO s167 r171).bind fun s173 =>
                  some s173
                 else
                  if (p0.op == (39 : Int)) then
                   (idx p0.kids (0 : Int)).bind fun x176 =>
                   (self20 (x176)).bind fun r178 =>
                   (catO (⟨#[64, 40]⟩ : ByteArray) r178).bind fun s180 =>
                   (catO s180 (⟨#[41]⟩ : ByteArray)).bind fun s182 =>
                   some s182
                  else
                   if (p0.op == (50 : Int)) then
                    (catO p0.name (⟨#[32, 58, 61, 32]⟩ : ByteArray)).bind fun s185 =>
                    (idx p0.kids (0 : Int)).bind fun x187 =>
                    (self20 (x187)).bind fun r189 =>
                    (catO s185 r189).bind fun s191 =>
                    some s191
                   else
                    if (p0.op == (51 : Int)) then
                     (catO p0.name (⟨#[39, 32, 58, 61, 32]⟩ : ByteArray)).bind fun s194 =>
                     (idx p0.kids (0 : Int)).bind fun x196 =>
                     (self20 (x196)).bind fun r198 =>
                     (catO s194 r198).bind fun s200 =>
                     some s200
                    else
                     if (p0.op == (52 : Int)) then
                      (catO p0.name (⟨#[32, 58, 61, 32, 42]⟩ : ByteArray)).bind fun s203 =>
                      some s203
                     else
                      if (p0.op == (53 : Int)) then
                       (idx p0.kids (0 : Int)).bind fun x206 =>
                       (self20 (x206)).bind fun r208 =>
                       (catO (⟨#[63]⟩ : ByteArray) r208).bind fun s210 =>
                       some s210
                      else
                       if (p0.op == (55 : Int)) then
                        (catO p0.name (⟨#[39, 32, 61, 32]⟩ : ByteArray)).bind fun s213 =>
                        (idx p0.kids (0 : Int)).bind fun x215 =>
                        (self20 (x215)).bind fun r217 =>
                        (catO s213 r217).bind fun s219 =>
                        some s219
                       else
                        if (p0.op == (56 : Int)) then
                         (catO p0.name (⟨#[46, 46]⟩ : ByteArray)).bind fun s222 =>
                         some s222
                        else
                         if (p0.op == (57 : Int)) then
                          (idx p0.kids (0 : Int)).bind fun x225 =>
                          (self20 (x225)).bind fun r227 =>
                          (catO (⟨#[123]⟩ : ByteArray) r227).bind fun s229 =>
                          (catO s229 (⟨#[32, 59, 32]⟩ : ByteArray)).bind fun s231 =>
                          (idx p0.kids (1 : Int)).bind fun x233 =>
                          (self20 (x233)).bind fun r235 =>
                          (catO s231 r235).bind fun s237 =>
                          (catO s237 (⟨#[125]⟩ : ByteArray)).bind fun s239 =>
                          some s239
                         else
                          if (p0.op == (58 : Int)) then
                           (idx p0.kids (0 : Int)).bind fun x242 =>
                           (self20 (x242)).bind fun r244 =>
                           (catO (⟨#[123]⟩ : ByteArray) r244).bind fun s246 =>
                           (catO s246 (⟨#[32, 43, 43, 32]⟩ : ByteArray)).bind fun s248 =>
                           (idx p0.kids (1 : Int)).bind fun x250 =>
                           (self20 (x250)).bind fun r252 =>
                           (catO s248 r252).bind fun s254 =>
                           (catO s254 (⟨#[125]⟩ : ByteArray)).bind fun s256 =>
                           some s256
                          else
                           if (p0.op == (59 : Int)) then
                            (idx p0.kids (0 : Int)).bind fun x259 =>
                            (self20 (x259)).bind fun r261 =>
                            (catO (⟨#[123]⟩ : ByteArray) r261).bind fun s263 =>
                            (catO s263 (⟨#[125, 42]⟩ : ByteArray)).bind fun s265 =>
                            some s265
                           else
                            if (p0.op == (60 : Int)) then
                             (idx p0.kids (0 : Int)).bind fun x268 =>
                             (self20 (x268)).bind fun r270 =>
                             (catO (⟨#[123]⟩ : ByteArray) r270).bind fun s272 =>
                             (catO s272 (⟨#[125, 64]⟩ : ByteArray)).bind fun s274 =>
                             some s274
                            else
                             if (p0.op == (62 : Int)) then
                              (catO p0.name (⟨#[33]⟩ : ByteArray)).bind fun s277 =>
                              some s277
                             else
                              if (p0.op == (54 : Int)) then
                               ((iter (S := ByteArray × Int) (R := ByteArray) K (fun again (i280_0, i280_1) =>
                                if (decide (i280_1 < (IntKind.wrap .i64 ((p0.kids.length : Int) - (1 : Int))))) then
                                 ((
                                  ((
                                   if (decide ((0 : Int) < i280_1)) then
                                    (catO i280_0 (⟨#[44, 32]⟩ : ByteArray)).bind fun s290 =>
                                    some s290
                                   else
                                    some i280_0) : Option ByteArray).bind (fun v287_0 =>
                                  (idx p0.kids i280_1).bind fun x292 =>
                                  (self20 (x292)).bind fun r294 =>
                                  (catO v287_0 r294).bind fun s296 =>
                                  some s296)) : Option ByteArray).bind (fun v285_0 =>
                                 again (v285_0, IntKind.wrap .i64 (i280_1 + (1 : Int))))
                                else
                                 some i280_0) ((⟨#[123]⟩ : ByteArray), (0 : Int))) : Option ByteArray).bind (fun e281_0 =>
                               (catO e281_0 (⟨#[32, 38, 32]⟩ : ByteArray)).bind fun s298 =>
                               (idx p0.kids (IntKind.wrap .i64 ((p0.kids.length : Int) - (1 : Int)))).bind fun x300 =>
                               (self20 (x300)).bind fun r302 =>
                               (catO s298 r302).bind fun s304 =>
                               (catO s304 (⟨#[125]⟩ : ByteArray)).bind fun s306 =>
                               some s306)
                              else
                               some (⟨#[]⟩ : ByteArray))))))
set_option maxHeartbeats 4000000 in
theorem r09_show_step (K : Nat) (self20 : NodeA → Option ByteArray) (hself20 : ∀ (q : NodeA) (r : ByteArray), self20 q = some r → Cn Tryz.prog 20 [aggV q.enc] (.d (.val (.string r)))) (p0 : NodeA) (r : ByteArray) (h : r09_show_body K self20 p0 = some r) : Cn Tryz.prog 20 [aggV p0.enc] (.d (.val (.string r))) := by
 refine Cn.oz Tryz.func20 Tryz.call20 Tryz.ntmps20 Tryz.results20 fun hfit => ?_
 unfold r09_show_body at h
 refine AW.kr [] [0] ?_
 refine AW.kr [0] [1] ?_
 refine AW.ks [0] [1, 3] ?_
 refine AW.one ?_
 refine AW.ro ?_
 refine AW.ks [0] [1, 3, 9] ?_
 refine AW.block ?_
 refine AW.ro ?_
 refine AW.ks [0] [1, 3, 9, 10] ?_
 refine AW.tt h (fun hb1 h => ?_) fun hb1 h => ?_
 ·refine AW.ro ?_
  refine cm h r02_Of_ok fun r2 hx3 h => ?_
  refine cm h r02_Text_ok fun r4 hx5 h => ?_
  refine AW.ret ?_
  cases h; refine nz ?_; exact .same _
 refine AW.jn h (fun v6_0 => [(1, .ptr 0 6 0 0), (3, vL NodeA.enc p0.kids), (9, vI p0.op), (16, vB v6_0)]) (fun v6_0 => [vE p0.enc]) (fun oJ7 h => ?_) fun v6_0 h => ?_
 ·refine AW.ro ?_
  refine AW.ks [0] [1, 3, 9, 16] ?_
  refine AW.tt h (fun hb8 h => ?_) fun hb8 h => ?_
  ·refine AW.sk ?_
   exact ja [0] h
  refine AW.rp ?_
  exact ja [0] h
 refine AW.tt h (fun hb9 h => ?_) fun hb9 h => ?_
 ·refine AW.ro ?_
  refine AW.ret ?_
  cases h; refine nz ?_; exact .same _
 refine AW.ro ?_
 refine AW.ks [0] [1, 3, 9, 21] ?_
 refine AW.tt h (fun hb10 h => ?_) fun hb10 h => ?_
 ·refine AW.ro ?_
  apply bE h; intro s11 hx12 h; have hx12 := bt hx12; refine ns ?_
  refine AW.ret ?_
  cases h; refine nz ?_; exact .same _
 refine AW.ro ?_
 refine AW.ks [0] [1, 3, 9, 26] ?_
 refine AW.tt h (fun hb13 h => ?_) fun hb13 h => ?_
 ·refine AW.ro ?_
  refine bx h fun x14 h0 h1 h => ?_
  refine cm h (hself20 _ _) fun r16 hx17 h => ?_
  apply bE h; intro s18 hx19 h; have hx19 := bt hx19; refine ns ?_
  apply bE h; intro s20 hx21 h; have hx21 := bt hx21; refine ns ?_
  refine AW.ret ?_
  cases h; refine nz ?_; exact .same _
 refine AW.jn h (fun v22_0 => [(1, .ptr 0 6 0 0), (3, vL NodeA.enc p0.kids), (9, vI p0.op), (34, vB v22_0)]) (fun v22_0 => [vE p0.enc]) (fun oJ23 h => ?_) fun v22_0 h => ?_
 ·refine AW.ro ?_
  refine AW.ks [0] [1, 3, 9, 34] ?_
  refine AW.tt h (fun hb24 h => ?_) fun hb24 h => ?_
  ·refine AW.sk ?_
   exact ja [0] h
  refine AW.ro ?_
  refine AW.ks [0] [1, 3, 9, 34] ?_
  refine AW.tt h (fun hb25 h => ?_) fun hb25 h => ?_
  ·refine AW.sk ?_
   exact ja [0] h
  refine AW.ro ?_
  refine AW.ks [0] [1, 3, 9, 34] ?_
  refine AW.tt h (fun hb26 h => ?_) fun hb26 h => ?_
  ·refine AW.sk ?_
   exact ja [0] h
  refine AW.ro ?_
  refine AW.ks [0] [1, 3, 9, 34] ?_
  refine AW.tt h (fun hb27 h => ?_) fun hb27 h => ?_
  ·refine AW.sk ?_
   exact ja [0] h
  refine AW.ro ?_
  refine AW.ks [0] [1, 3, 9, 34] ?_
  refine AW.tt h (fun hb28 h => ?_) fun hb28 h => ?_
  ·refine AW.sk ?_
   exact ja [0] h
  refine AW.ro ?_
  refine AW.ks [0] [1, 3, 9, 34] ?_
  refine AW.tt h (fun hb29 h => ?_) fun hb29 h => ?_
  ·refine AW.sk ?_
   exact ja [0] h
  refine AW.ro ?_
  refine AW.ks [0] [1, 3, 9, 34] ?_
  refine AW.tt h (fun hb30 h => ?_) fun hb30 h => ?_
  ·refine AW.sk ?_
   exact ja [0] h
  refine AW.ro ?_
  refine AW.ks [0] [1, 3, 9, 34] ?_
  refine AW.tt h (fun hb31 h => ?_) fun hb31 h => ?_
  ·refine AW.sk ?_
   exact ja [0] h
  refine AW.rp ?_
  exact ja [0] h
 refine AW.tt h (fun hb32 h => ?_) fun hb32 h => ?_
 ·refine AW.ro ?_
  refine bx h fun x33 h0 h1 h => ?_
  refine pm h (hself20 _ _) fun r35 hx36 h => ?_
  apply bE h; intro s37 hx38 h; have hx38 := bt hx38; refine ns ?_
  apply bE h; intro s39 hx40 h; have hx40 := bt hx40; refine ns ?_
  refine pm h r09_infix_ok fun r41 hx42 h => ?_
  apply bE h; intro s43 hx44 h; have hx44 := bt hx44; refine ns ?_
  apply bE h; intro s45 hx46 h; have hx46 := bt hx46; refine ns ?_
  refine bx h fun x47 h0 h1 h => ?_
  refine pm h (hself20 _ _) fun r49 hx50 h => ?_
  apply bE h; intro s51 hx52 h; have hx52 := bt hx52; refine ns ?_
  apply bE h; intro s53 hx54 h; have hx54 := bt hx54; refine ns ?_
  refine AW.ret ?_
  cases h; refine nz ?_; exact .same _
 refine AW.jn h (fun v55_0 => [(1, .ptr 0 6 0 0), (3, vL NodeA.enc p0.kids), (9, vI p0.op), (61, vB v55_0)]) (fun v55_0 => [vE p0.enc]) (fun oJ56 h => ?_) fun v55_0 h => ?_
 ·refine AW.ro ?_
  refine AW.ks [0] [1, 3, 9, 61] ?_
  refine AW.tt h (fun hb57 h => ?_) fun hb57 h => ?_
  ·refine AW.sk ?_
   exact ja [0] h
  refine AW.ro ?_
  refine AW.ks [0] [1, 3, 9, 61] ?_
  refine AW.tt h (fun hb58 h => ?_) fun hb58 h => ?_
  ·refine AW.sk ?_
   exact ja [0] h
  refine AW.ro ?_
  refine AW.ks [0] [1, 3, 9, 61] ?_
  refine AW.tt h (fun hb59 h => ?_) fun hb59 h => ?_
  ·refine AW.sk ?_
   exact ja [0] h
  refine AW.ro ?_
  refine AW.ks [0] [1, 3, 9, 61] ?_
  refine AW.tt h (fun hb60 h => ?_) fun hb60 h => ?_
  ·refine AW.sk ?_
   exact ja [0] h
  refine AW.ro ?_
  refine AW.ks [0] [1, 3, 9, 61] ?_
  refine AW.tt h (fun hb61 h => ?_) fun hb61 h => ?_
  ·refine AW.sk ?_
   exact ja [0] h
  refine AW.rp ?_
  exact ja [0] h
 refine AW.tt h (fun hb62 h => ?_) fun hb62 h => ?_
 ·refine AW.ro ?_
  refine bx h fun x63 h0 h1 h => ?_
  refine pm h (hself20 _ _) fun r65 hx66 h => ?_
  apply bE h; intro s67 hx68 h; have hx68 := bt hx68; refine ns ?_
  refine pm h r09_infix_ok fun r69 hx70 h => ?_
  apply bE h; intro s71 hx72 h; have hx72 := bt hx72; refine ns ?_
  apply bE h; intro s73 hx74 h; have hx74 := bt hx74; refine ns ?_
  refine bx h fun x75 h0 h1 h => ?_
  refine pm h (hself20 _ _) fun r77 hx78 h => ?_
  apply bE h; intro s79 hx80 h; have hx80 := bt hx80; refine ns ?_
  refine AW.ret ?_
  cases h; refine nz ?_; exact .same _
 refine AW.jn h (fun v81_0 => [(1, .ptr 0 6 0 0), (3, vL NodeA.enc p0.kids), (9, vI p0.op), (83, vB v81_0)]) (fun v81_0 => [vE p0.enc]) (fun oJ82 h => ?_) fun v81_0 h => ?_
 ·refine AW.ro ?_
  refine AW.ks [0] [1, 3, 9, 83] ?_
  refine AW.tt h (fun hb83 h => ?_) fun hb83 h => ?_
  ·refine AW.sk ?_
   exact ja [0] h
  refine AW.rp ?_
  exact ja [0] h
 refine AW.tt h (fun hb84 h => ?_) fun hb84 h => ?_
 ·refine AW.one ?_
  refine AW.ro ?_
  refine AW.ks [0] [1, 3, 88] ?_
  refine AW.tk h (fun hb85 h => ?_) fun hb85 h => ?_
  ·refine AW.ro ?_
   apply bE h; intro s86 hx87 h; have hx87 := bt hx87; refine ns ?_
   refine AW.ret ?_
   cases h; refine nz ?_; exact .same _
  refine AW.kr [0] [1, 3] ?_
  apply bE h; intro s88 hx89 h; have hx89 := bt hx89; refine ns ?_
  refine bx h fun x90 h0 h1 h => ?_
  refine pm h (hself20 _ _) fun r92 hx93 h => ?_
  apply bE h; intro s94 hx95 h; have hx95 := bt hx95; refine ns ?_
  apply bE h; intro s96 hx97 h; have hx97 := bt hx97; refine ns ?_
  refine AW.ret ?_
  cases h; refine nz ?_; exact .same _
 refine AW.jn h (fun v98_0 => [(1, .ptr 0 6 0 0), (3, vL NodeA.enc p0.kids), (9, vI p0.op), (101, vB v98_0)]) (fun v98_0 => [vE p0.enc]) (fun oJ99 h => ?_) fun v98_0 h => ?_
 ·refine AW.ro ?_
  refine AW.ks [0] [1, 3, 9, 101] ?_
  refine AW.tt h (fun hb100 h => ?_) fun hb100 h => ?_
  ·refine AW.sk ?_
   exact ja [0] h
  refine AW.rp ?_
  exact ja [0] h
 refine AW.tt h (fun hb101 h => ?_) fun hb101 h => ?_
 ·refine AW.ro ?_
  apply bE h; intro s102 hx103 h; have hx103 := bt hx103; refine ns ?_
  refine AW.ret ?_
  cases h; refine nz ?_; exact .same _
 refine AW.ro ?_
 refine AW.ks [0] [1, 3, 9, 107] ?_
 refine AW.tt h (fun hb104 h => ?_) fun hb104 h => ?_
 ·refine AW.ro ?_
  refine bx h fun x105 h0 h1 h => ?_
  refine cm h (hself20 _ _) fun r107 hx108 h => ?_
  apply bE h; intro s109 hx110 h; have hx110 := bt hx110; refine ns ?_
  apply bE h; intro s111 hx112 h; have hx112 := bt hx112; refine ns ?_
  refine AW.ret ?_
  cases h; refine nz ?_; exact .same _
 refine AW.ro ?_
 refine AW.ks [0] [1, 3, 9, 115] ?_
 refine AW.tt h (fun hb113 h => ?_) fun hb113 h => ?_
 ·refine AW.ro ?_
  refine AW.ret ?_
  cases h; refine nz ?_; exact .same _
 refine AW.ro ?_
 refine AW.ks [0] [1, 3, 9, 117] ?_
 refine AW.tt h (fun hb114 h => ?_) fun hb114 h => ?_
 ·refine AW.ro ?_
  refine AW.ret ?_
  cases h; refine nz ?_; exact .same _
 refine AW.ro ?_
 refine AW.ks [0] [1, 3, 9, 119] ?_
 refine AW.tt h (fun hb115 h => ?_) fun hb115 h => ?_
 ·refine AW.ro ?_
  refine AW.ret ?_
  cases h; refine nz ?_; exact .same _
 refine AW.ro ?_
 refine AW.ks [0] [1, 3, 9, 121] ?_
 refine AW.tt h (fun hb116 h => ?_) fun hb116 h => ?_
 ·refine AW.ro ?_
  refine bx h fun x117 h0 h1 h => ?_
  refine cm h (hself20 _ _) fun r119 hx120 h => ?_
  apply bE h; intro s121 hx122 h; have hx122 := bt hx122; refine ns ?_
  refine AW.ret ?_
  cases h; refine nz ?_; exact .same _
 refine AW.ro ?_
 refine AW.ks [0] [1, 3, 9, 128] ?_
 refine AW.tt h (fun hb123 h => ?_) fun hb123 h => ?_
 ·refine AW.ro ?_
  apply bE h; intro s124 hx125 h; have hx125 := bt hx125; refine ns ?_
  apply bE h; intro s126 hx127 h; have hx127 := bt hx127; refine ns ?_
  refine bx h fun x128 h0 h1 h => ?_
  refine pm h (hself20 _ _) fun r130 hx131 h => ?_
  apply bE h; intro s132 hx133 h; have hx133 := bt hx133; refine ns ?_
  refine AW.ret ?_
  cases h; refine nz ?_; exact .same _
 refine AW.ro ?_
 refine AW.ks [0] [1, 3, 9, 139] ?_
 refine AW.tt h (fun hb134 h => ?_) fun hb134 h => ?_
 ·refine AW.ro ?_
  apply bE h; intro s135 hx136 h; have hx136 := bt hx136; refine ns ?_
  apply bE h; intro s137 hx138 h; have hx138 := bt hx138; refine ns ?_
  refine bx h fun x139 h0 h1 h => ?_
  refine pm h (hself20 _ _) fun r141 hx142 h => ?_
  apply bE h; intro s143 hx144 h; have hx144 := bt hx144; refine ns ?_
  refine AW.ret ?_
  cases h; refine nz ?_; exact .same _
 refine AW.ro ?_
 refine AW.ks [0] [1, 3, 9, 150] ?_
 refine AW.tt h (fun hb145 h => ?_) fun hb145 h => ?_
 ·refine AW.ro ?_
  refine bx h fun x146 h0 h1 h => ?_
  refine pm h (hself20 _ _) fun r148 hx149 h => ?_
  apply bE h; intro s150 hx151 h; have hx151 := bt hx151; refine ns ?_
  apply bE h; intro s152 hx153 h; have hx153 := bt hx153; refine ns ?_
  refine bx h fun x154 h0 h1 h => ?_
  refine pm h (hself20 _ _) fun r156 hx157 h => ?_
  apply bE h; intro s158 hx159 h; have hx159 := bt hx159; refine ns ?_
  refine AW.ret ?_
  cases h; refine nz ?_; exact .same _
 refine AW.ro ?_
 refine AW.ks [0] [1, 3, 9, 163] ?_
 refine AW.tt h (fun hb160 h => ?_) fun hb160 h => ?_
 ·refine AW.ro ?_
  refine bx h fun x161 h0 h1 h => ?_
  refine pm h (hself20 _ _) fun r163 hx164 h => ?_
  apply bE h; intro s165 hx166 h; have hx166 := bt hx166; refine ns ?_
  apply bE h; intro s167 hx168 h; have hx168 := bt hx168; refine ns ?_
  refine bx h fun x169 h0 h1 h => ?_
  refine pm h (hself20 _ _) fun r171 hx172 h => ?_
  apply bE h; intro s173 hx174 h; have hx174 := bt hx174; refine ns ?_
  refine AW.ret ?_
  cases h; refine nz ?_; exact .same _
 refine AW.ro ?_
 refine AW.ks [0] [1, 3, 9, 176] ?_
 refine AW.tt h (fun hb175 h => ?_) fun hb175 h => ?_
 ·refine AW.ro ?_
  refine bx h fun x176 h0 h1 h => ?_
  refine cm h (hself20 _ _) fun r178 hx179 h => ?_
  apply bE h; intro s180 hx181 h; have hx181 := bt hx181; refine ns ?_
  apply bE h; intro s182 hx183 h; have hx183 := bt hx183; refine ns ?_
  refine AW.ret ?_
  cases h; refine nz ?_; exact .same _
 refine AW.ro ?_
 refine AW.ks [0] [1, 3, 9, 184] ?_
 refine AW.tt h (fun hb184 h => ?_) fun hb184 h => ?_
 ·refine AW.ro ?_
  apply bE h; intro s185 hx186 h; have hx186 := bt hx186; refine ns ?_
  refine bx h fun x187 h0 h1 h => ?_
  refine pm h (hself20 _ _) fun r189 hx190 h => ?_
  apply bE h; intro s191 hx192 h; have hx192 := bt hx192; refine ns ?_
  refine AW.ret ?_
  cases h; refine nz ?_; exact .same _
 refine AW.ro ?_
 refine AW.ks [0] [1, 3, 9, 194] ?_
 refine AW.tt h (fun hb193 h => ?_) fun hb193 h => ?_
 ·refine AW.ro ?_
  apply bE h; intro s194 hx195 h; have hx195 := bt hx195; refine ns ?_
  refine bx h fun x196 h0 h1 h => ?_
  refine pm h (hself20 _ _) fun r198 hx199 h => ?_
  apply bE h; intro s200 hx201 h; have hx201 := bt hx201; refine ns ?_
  refine AW.ret ?_
  cases h; refine nz ?_; exact .same _
 refine AW.ro ?_
 refine AW.ks [0] [1, 3, 9, 204] ?_
 refine AW.tt h (fun hb202 h => ?_) fun hb202 h => ?_
 ·refine AW.ro ?_
  apply bE h; intro s203 hx204 h; have hx204 := bt hx204; refine ns ?_
  refine AW.ret ?_
  cases h; refine nz ?_; exact .same _
 refine AW.ro ?_
 refine AW.ks [0] [1, 3, 9, 209] ?_
 refine AW.tt h (fun hb205 h => ?_) fun hb205 h => ?_
 ·refine AW.ro ?_
  refine bx h fun x206 h0 h1 h => ?_
  refine cm h (hself20 _ _) fun r208 hx209 h => ?_
  apply bE h; intro s210 hx211 h; have hx211 := bt hx211; refine ns ?_
  refine AW.ret ?_
  cases h; refine nz ?_; exact .same _
 refine AW.ro ?_
 refine AW.ks [0] [1, 3, 9, 216] ?_
 refine AW.tt h (fun hb212 h => ?_) fun hb212 h => ?_
 ·refine AW.ro ?_
  apply bE h; intro s213 hx214 h; have hx214 := bt hx214; refine ns ?_
  refine bx h fun x215 h0 h1 h => ?_
  refine pm h (hself20 _ _) fun r217 hx218 h => ?_
  apply bE h; intro s219 hx220 h; have hx220 := bt hx220; refine ns ?_
  refine AW.ret ?_
  cases h; refine nz ?_; exact .same _
 refine AW.ro ?_
 refine AW.ks [0] [1, 3, 9, 226] ?_
 refine AW.tt h (fun hb221 h => ?_) fun hb221 h => ?_
 ·refine AW.ro ?_
  apply bE h; intro s222 hx223 h; have hx223 := bt hx223; refine ns ?_
  refine AW.ret ?_
  cases h; refine nz ?_; exact .same _
 refine AW.ro ?_
 refine AW.ks [0] [1, 3, 9, 231] ?_
 refine AW.tt h (fun hb224 h => ?_) fun hb224 h => ?_
 ·refine AW.ro ?_
  refine bx h fun x225 h0 h1 h => ?_
  refine pm h (hself20 _ _) fun r227 hx228 h => ?_
  apply bE h; intro s229 hx230 h; have hx230 := bt hx230; refine ns ?_
  apply bE h; intro s231 hx232 h; have hx232 := bt hx232; refine ns ?_
  refine bx h fun x233 h0 h1 h => ?_
  refine pm h (hself20 _ _) fun r235 hx236 h => ?_
  apply bE h; intro s237 hx238 h; have hx238 := bt hx238; refine ns ?_
  apply bE h; intro s239 hx240 h; have hx240 := bt hx240; refine ns ?_
  refine AW.ret ?_
  cases h; refine nz ?_; exact .same _
 refine AW.ro ?_
 refine AW.ks [0] [1, 3, 9, 245] ?_
 refine AW.tt h (fun hb241 h => ?_) fun hb241 h => ?_
 ·refine AW.ro ?_
  refine bx h fun x242 h0 h1 h => ?_
  refine pm h (hself20 _ _) fun r244 hx245 h => ?_
  apply bE h; intro s246 hx247 h; have hx247 := bt hx247; refine ns ?_
  apply bE h; intro s248 hx249 h; have hx249 := bt hx249; refine ns ?_
  refine bx h fun x250 h0 h1 h => ?_
  refine pm h (hself20 _ _) fun r252 hx253 h => ?_
  apply bE h; intro s254 hx255 h; have hx255 := bt hx255; refine ns ?_
  apply bE h; intro s256 hx257 h; have hx257 := bt hx257; refine ns ?_
  refine AW.ret ?_
  cases h; refine nz ?_; exact .same _
 refine AW.ro ?_
 refine AW.ks [0] [1, 3, 9, 259] ?_
 refine AW.tt h (fun hb258 h => ?_) fun hb258 h => ?_
 ·refine AW.ro ?_
  refine bx h fun x259 h0 h1 h => ?_
  refine cm h (hself20 _ _) fun r261 hx262 h => ?_
  apply bE h; intro s263 hx264 h; have hx264 := bt hx264; refine ns ?_
  apply bE h; intro s265 hx266 h; have hx266 := bt hx266; refine ns ?_
  refine AW.ret ?_
  cases h; refine nz ?_; exact .same _
 refine AW.ro ?_
 refine AW.ks [0] [1, 3, 9, 267] ?_
 refine AW.tt h (fun hb267 h => ?_) fun hb267 h => ?_
 ·refine AW.ro ?_
  refine bx h fun x268 h0 h1 h => ?_
  refine cm h (hself20 _ _) fun r270 hx271 h => ?_
  apply bE h; intro s272 hx273 h; have hx273 := bt hx273; refine ns ?_
  apply bE h; intro s274 hx275 h; have hx275 := bt hx275; refine ns ?_
  refine AW.ret ?_
  cases h; refine nz ?_; exact .same _
 refine AW.ro ?_
 refine AW.ks [0] [1, 3, 9, 275] ?_
 refine AW.tt h (fun hb276 h => ?_) fun hb276 h => ?_
 ·refine AW.ro ?_
  apply bE h; intro s277 hx278 h; have hx278 := bt hx278; refine ns ?_
  refine AW.ret ?_
  cases h; refine nz ?_; exact .same _
 refine AW.ro ?_
 refine AW.ks [] [3, 280] ?_
 refine AW.tk h (fun hb279 h => ?_) fun hb279 h => ?_
 ·refine AW.ro ?_
  refine AW.ks [] [3, 4] ?_
  refine AW.one ?_
  refine AW.ro ?_
  refine AW.ks [] [3, 4, 5] ?_
  refine AW.lm h (fun e281_0 => [(3, vL NodeA.enc p0.kids), (4, vS e281_0)]) (fun e281_0 => []) (fun (i280_0, i280_1) => [(3, vL NodeA.enc p0.kids), (4, vS i280_0), (5, vI i280_1)]) (fun (i280_0, i280_1) => []) [] (fun oJ283 again ⟨i280_0, i280_1⟩ h => ?_) fun e281_0 h => ?_
  ·try dsimp only at h
   refine AW.one ?_
   refine AW.ro ?_
   refine AW.ks [] [3, 4, 5, 286] ?_
   refine AW.tt h (fun hb284 h => ?_) fun hb284 h => ?_
   ·refine AW.sk ?_
    refine AW.ks [] [3, 4, 5] ?_
    refine AW.jn h (fun v285_0 => [(3, vL NodeA.enc p0.kids), (4, vS v285_0), (5, vI i280_1)]) (fun v285_0 => []) (fun oJ286 h => ?_) fun v285_0 h => ?_
    ·refine AW.block ?_
     refine AW.jn h (fun v287_0 => [(3, vL NodeA.enc p0.kids), (4, vS v287_0), (5, vI i280_1)]) (fun v287_0 => []) (fun oJ288 h => ?_) fun v287_0 h => ?_
     ·refine AW.ro ?_
      refine AW.ks [] [3, 4, 5, 290] ?_
      refine AW.tk h (fun hb289 h => ?_) fun hb289 h => ?_
      ·refine AW.rp ?_
       apply bE h; intro s290 hx291 h; have hx291 := bt hx291; refine ns ?_
       exact ja [] h
      exact ja [] h
     refine AW.rp ?_
     refine bx h fun x292 h0 h1 h => ?_
     refine cm h (hself20 _ _) fun r294 hx295 h => ?_
     apply bE h; intro s296 hx297 h; have hx297 := bt hx297; refine ns ?_
     exact ja [] h
    refine AW.rp ?_
    exact na [] h
   refine AW.ex ?_
   exact ja [] h
  refine AW.kr [] [3, 4] ?_
  apply bE h; intro s298 hx299 h; have hx299 := bt hx299; refine ns ?_
  refine bx h fun x300 h0 h1 h => ?_
  refine cm h (hself20 _ _) fun r302 hx303 h => ?_
  apply bE h; intro s304 hx305 h; have hx305 := bt hx305; refine ns ?_
  apply bE h; intro s306 hx307 h; have hx307 := bt hx307; refine ns ?_
  refine AW.ret ?_
  cases h; refine nz ?_; exact .same _
 refine AW.kr [] [] ?_
 refine AW.ret ?_
 cases h; refine nz ?_; exact .same _
def r09_show (K : Nat) (p0 : NodeA) : Option ByteArray := iter K (fun self q => r09_show_body K self q) p0
theorem key_r09_show {K : Nat} (k : Nat) : (∀ (q : NodeA) (r : ByteArray), iter k (fun self q => r09_show_body K self q) q = some r → Cn Tryz.prog 20 [aggV q.enc] (.d (.val (.string r)))) := by
 induction k with
 | zero => exact fun q r h => by cases h
 | succ k ih => exact fun q r h => r09_show_step K _ ih q r h
theorem r09_show_ok {K : Nat} {p0 : NodeA} {r : ByteArray} (h : r09_show K p0 = some r) : Cn Tryz.prog 20 [aggV p0.enc] (.d (.val (.string r))) := (key_r09_show K) p0 r h
/-! ### isochrone/isochroneref09.Print -/
def r09_Print (K : Nat) (p0 : NodeA) : Option (ByteArray × Int) := (r08_Sort K p0.op).bind fun r1 =>
 ((
  ((
   if (r1 == (0 : Int)) then
    some true
   else
    some (r1 == (4 : Int))) : Option Bool).bind (fun v5_0 =>
  if v5_0 then
   outM (
    some ((⟨#[]⟩ : ByteArray), (80 : Int)))
  else
   some (.go ()))) : Option (Out Unit _)).bind (Out.fin fun _ =>
 (r08_Check K p0 r1).bind fun r9 =>
 if (r9 != (0 : Int)) then
  some ((⟨#[]⟩ : ByteArray), r9)
 else
  (r09_show K p0).bind fun r12 =>
  some (r12, (0 : Int)))
set_option maxHeartbeats 4000000 in
theorem r09_Print_ok {K : Nat} {p0 : NodeA} {r : ByteArray × Int} (h : r09_Print K p0 = some r) : Cn Tryz.prog 9 [aggV p0.enc] (.tup [.d (.val (.string r.1)), .d (.val (.int .i64 r.2))]) := by
 refine Cn.oz Tryz.func9 Tryz.call9 Tryz.ntmps9 Tryz.results9 fun hfit => ?_
 unfold r09_Print at h
 refine AW.kr [] [0] ?_
 refine AW.kr [0] [1] ?_
 refine cm h r08_Sort_ok fun r1 hx2 h => ?_
 refine AW.ks [0] [1, 4] ?_
 refine AW.jo h (fun _ => [(1, .ptr 0 6 0 0), (4, vI r1)]) (fun _ => [vE p0.enc]) (fun oJ4 h hJ4 => ?_) fun ⟨⟩ h => ?_
 ·refine AW.jn h (fun v5_0 => [(1, .ptr 0 6 0 0), (4, vI r1), (14, vB v5_0)]) (fun v5_0 => [vE p0.enc]) (fun oJ6 h => ?_) fun v5_0 h => ?_
  ·refine AW.rp ?_
   refine sK h (fun hb7 h => ?_) fun hb7 h => ?_
   ·exact ja [0] h
   exact ja [0] h
  refine AW.tk h (fun hb8 h => ?_) fun hb8 h => ?_
  ·refine AW.ro ?_
   refine AW.ret ?_
   have h := up h hJ4
   cases h; refine nz ?_; exact .same _
  exact jo [0] h
 refine AW.one ?_
 refine AW.ro ?_
 refine cm h r08_Check_ok fun r9 hx10 h => ?_
 refine AW.kr [0] [1, 5] ?_
 refine AW.ks [0] [1, 5, 19] ?_
 refine AW.tk h (fun hb11 h => ?_) fun hb11 h => ?_
 ·refine AW.ro ?_
  refine AW.ret ?_
  cases h; refine nz ?_; exact .same _
 refine AW.kr [0] [1] ?_
 refine cm h r09_show_ok fun r12 hx13 h => ?_
 refine AW.ret ?_
 cases h; refine nz ?_; exact .same _
/-! ### isochrone/isochronelaw09.TextPrints -/
def law09_TextPrints (K : Nat) (p0 : NodeA) : Option Bool := (law09_awake K ).bind fun r1 =>
 if (!r1) then
  some false
 else
  (r08_Size K p0).bind fun r4 =>
  if (decide ((4000 : Int) < r4)) then
   some true
  else
   (text_Print K p0).bind fun r7 =>
   (r09_Print K p0).bind fun r9 =>
   if (r7.2 == r9.2) then
    some (r7.1.toList == r9.1.toList)
   else
    some false
set_option maxHeartbeats 4000000 in
theorem law09_TextPrints_ok {K : Nat} {p0 : NodeA} {r : Bool} (h : law09_TextPrints K p0 = some r) : Cn Tryz.prog 3 [aggV p0.enc] (.d (.val (.bool r))) := by
 refine Cn.oz Tryz.func3 Tryz.call3 Tryz.ntmps3 Tryz.results3 fun hfit => ?_
 unfold law09_TextPrints at h
 refine AW.kr [] [0] ?_
 refine AW.ks [0] [1] ?_
 refine AW.one ?_
 refine AW.ro ?_
 refine cm h law09_awake_ok fun r1 hx2 h => ?_
 refine AW.ks [0] [1, 8] ?_
 refine AW.tk h (fun hb3 h => ?_) fun hb3 h => ?_
 ·refine AW.ro ?_
  refine AW.ret ?_
  cases h; refine nz ?_; exact .same _
 refine AW.ks [0] [1] ?_
 refine AW.one ?_
 refine AW.ro ?_
 refine cm h r08_Size_ok fun r4 hx5 h => ?_
 refine AW.ks [0] [1, 11] ?_
 refine AW.tk h (fun hb6 h => ?_) fun hb6 h => ?_
 ·refine AW.ro ?_
  refine AW.ret ?_
  cases h; refine nz ?_; exact .same _
 refine AW.kr [0] [1] ?_
 refine cm h text_Print_ok fun r7 hx8 h => ?_
 refine AW.kr [0] [1, 3, 4] ?_
 refine cm h r09_Print_ok fun r9 hx10 h => ?_
 refine AW.kr [] [3, 4, 5, 6] ?_
 refine sK h (fun hb11 h => ?_) fun hb11 h => ?_
 ·refine AW.ret ?_
  cases h; refine nz ?_; exact .same _
 refine AW.ret ?_
 cases h; refine nz ?_; exact .same _
end Go.Proofs.YtemjeommnpocnaaGreat
