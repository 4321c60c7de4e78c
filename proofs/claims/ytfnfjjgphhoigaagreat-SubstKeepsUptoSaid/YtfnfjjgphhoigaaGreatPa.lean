/- Part of the proof of a law: contracts of the functions that the law reaches, or plain laws of them, out of the abstract layer (the texts YtfnfjjgphhoigaaGreatIso..). No condition. -/
import Derived.Test.YtfnfjjgphhoigaaGreatW
import Derived.Test.YtfnfjjgphhoigaaGreatIsoGG
import Derived.Test.YtfnfjjgphhoigaaGreatShelf
import Derived.Test.YtfnfjjgphhoigaaGreatIsoV
open Nat (reduceEqDiff reduceAdd reduceSub reduceMul reduceLeDiff reduceLT)
namespace Go.Proofs.YtfnfjjgphhoigaaGreat
open Go Go.Iso Go.Proofs
set_option linter.unusedSimpArgs false
set_option linter.unusedVariables false
set_option maxRecDepth 100000
/-! ### isochrone/isochroneref08.less -/
def r08_less (K : Nat) (p0 : Int) (p1 : Int) : Option Int := if (decide (p0 < p1)) then
  some (-1 : Int)
 else
  if (decide (p1 < p0)) then
   some (1 : Int)
  else
   some (0 : Int)
set_option maxHeartbeats 4000000 in
theorem r08_less_ok {K : Nat} {p0 : Int} {p1 : Int} {r : Int} (h : r08_less K p0 p1 = some r) : Cn Tryz.prog 43 [.d (.val (.int .i64 p0)), .d (.val (.int .i64 p1))] (.d (.val (.int .i64 r))) := by
 refine Cn.oz Tryz.func43 Tryz.call43 Tryz.ntmps43 Tryz.results43 fun hfit => ?_
 unfold r08_less at h
 refine AW.kr [] [0, 1] ?_
 refine AW.ks [] [0, 1] ?_
 refine AW.one ?_
 refine AW.ro ?_
 refine AW.ks [] [0, 1, 7] ?_
 refine AW.tk h (fun hb1 h => ?_) fun hb1 h => ?_
 ·refine AW.ro ?_
  refine AW.ret ?_
  cases h; refine nz ?_; exact .same _
 refine AW.ks [] [0, 1] ?_
 refine AW.one ?_
 refine AW.ro ?_
 refine AW.ks [] [10] ?_
 refine AW.tk h (fun hb2 h => ?_) fun hb2 h => ?_
 ·refine AW.ro ?_
  refine AW.ret ?_
  cases h; refine nz ?_; exact .same _
 refine AW.kr [] [] ?_
 refine AW.ret ?_
 cases h; refine nz ?_; exact .same _
/-! ### isochrone/isochroneref08.words -/
def r08_words (K : Nat) (p0 : List Int) (p1 : List Int) : Option Int := if ((p0.length : Int) != (p1.length : Int)) then
  if (decide ((p0.length : Int) < (p1.length : Int))) then
   some (-1 : Int)
  else
   some (1 : Int)
 else
  ((iter (S := Int) (R := Out Unit _) K (fun again i3_0 =>
   if (decide ((0 : Int) ≤ i3_0)) then
    (idx p0 i3_0).bind fun x8 =>
    (idx p1 i3_0).bind fun x10 =>
    if (x8 != x10) then
     if (decide (x8 < x10)) then
      outM (
       some (-1 : Int))
     else
      outM (
       some (1 : Int))
    else
     again (IntKind.wrap .i64 (i3_0 - (1 : Int)))
   else
    some (.go ())) (IntKind.wrap .i64 ((p0.length : Int) - (1 : Int)))) : Option (Out Unit _)).bind (Out.fin fun _ =>
  some (0 : Int))
set_option maxHeartbeats 4000000 in
theorem r08_words_ok {K : Nat} {p0 : List Int} {p1 : List Int} {r : Int} (h : r08_words K p0 p1 = some r) : Cn Tryz.prog 44 [.d (slD u32V p0), .d (slD u32V p1)] (.d (.val (.int .i64 r))) := by
 refine Cn.oz Tryz.func44 Tryz.call44 Tryz.ntmps44 Tryz.results44 fun hfit => ?_
 unfold r08_words at h
 refine AW.kr [] [0, 1] ?_
 refine AW.ks [] [0, 1] ?_
 refine AW.one ?_
 refine AW.ro ?_
 refine AW.ks [] [0, 1, 10] ?_
 refine AW.tk h (fun hb1 h => ?_) fun hb1 h => ?_
 ·refine AW.one ?_
  refine AW.ro ?_
  refine AW.ks [] [15] ?_
  refine AW.tk h (fun hb2 h => ?_) fun hb2 h => ?_
  ·refine AW.ro ?_
   refine AW.ret ?_
   cases h; refine nz ?_; exact .same _
  refine AW.kr [] [] ?_
  refine AW.ret ?_
  cases h; refine nz ?_; exact .same _
 refine AW.ks [] [0, 1] ?_
 refine AW.one ?_
 refine AW.ro ?_
 refine AW.ks [] [0, 1, 5] ?_
 refine AW.lp h (fun _ => []) (fun _ => []) (fun i3_0 => [(0, vL u32V p0), (1, vL u32V p1), (5, vI i3_0)]) (fun i3_0 => []) [] (fun oJ6 hJ6 again i3_0 h => ?_) fun ⟨⟩ h => ?_
 ·refine AW.one ?_
  refine AW.ro ?_
  refine AW.ks [] [0, 1, 5, 20] ?_
  refine AW.tt h (fun hb7 h => ?_) fun hb7 h => ?_
  ·refine AW.sk ?_
   refine AW.ks [] [0, 1, 5] ?_
   refine AW.one ?_
   refine AW.block ?_
   refine AW.ro ?_
   refine bx h fun x8 h0 h1 h => ?_
   refine bx h fun x10 h0 h1 h => ?_
   refine AW.ks [] [0, 1, 5, 31] ?_
   refine AW.tk h (fun hb12 h => ?_) fun hb12 h => ?_
   ·refine AW.one ?_
    refine AW.ro ?_
    refine AW.ks [] [40] ?_
    refine AW.tk h (fun hb13 h => ?_) fun hb13 h => ?_
    ·refine AW.ro ?_
     refine AW.ret ?_
     have h := up h hJ6
     cases h; refine nz ?_; exact .same _
    refine AW.kr [] [] ?_
    refine AW.ret ?_
    have h := up h hJ6
    cases h; refine nz ?_; exact .same _
   refine AW.ks [] [0, 1, 5] ?_
   refine AW.rp ?_
   exact na [] h
  refine AW.ex ?_
  exact jo [] h
 refine AW.kr [] [] ?_
 refine AW.ret ?_
 cases h; refine nz ?_; exact .same _
/-! ### isochrone/isochroneref08.Compare -/
def r08_Compare_body (K : Nat) (self19 : (NodeA × NodeA) → Option Int) (p0 : NodeA) (p1 : NodeA) : Option Int := (r08_less K p0.op p1.op).bind fun r1 =>
 if (r1 != (0 : Int)) then
  some r1
 else
  if (!(p0.name.toList == p1.name.toList)) then
   if (Op.bytesLess p0.name.toList p1.name.toList) then
    some (-1 : Int)
   else
    some (1 : Int)
  else
   if (!(p0.num.neg == p1.num.neg)) then
    if p1.num.neg then
     some (-1 : Int)
    else
     some (1 : Int)
   else
    (r08_words K p0.num.num p1.num.num).bind fun r8 =>
    if (r8 != (0 : Int)) then
     some r8
    else
     (r08_words K p0.num.den p1.num.den).bind fun r11 =>
     if (r11 != (0 : Int)) then
      some r11
     else
      (r08_less K (p0.kids.length : Int) (p1.kids.length : Int)).bind fun r14 =>
      if (r14 != (0 : Int)) then
       some r14
      else
       ((iter (S := Int) (R := Out Unit _) K (fun again i17_0 =>
        if (decide (i17_0 < (p0.kids.length : Int))) then
         (idx p0.kids i17_0).bind fun x22 =>
         (idx p1.kids i17_0).bind fun x24 =>
         (self19 (x22, x24)).bind fun r26 =>
         if (r26 != (0 : Int)) then
          outM (
           some r26)
         else
          again (IntKind.wrap .i64 (i17_0 + (1 : Int)))
        else
         some (.go ())) (0 : Int)) : Option (Out Unit _)).bind (Out.fin fun _ =>
       some (0 : Int))
set_option maxHeartbeats 4000000 in
theorem r08_Compare_step (K : Nat) (self19 : (NodeA × NodeA) → Option Int) (hself19 : ∀ (q : NodeA × NodeA) (r : Int), self19 q = some r → Cn Tryz.prog 19 [aggV q.1.enc, aggV q.2.enc] (.d (.val (.int .i64 r)))) (p0 : NodeA) (p1 : NodeA) (r : Int) (h : r08_Compare_body K self19 p0 p1 = some r) : Cn Tryz.prog 19 [aggV p0.enc, aggV p1.enc] (.d (.val (.int .i64 r))) := by
 refine Cn.oz Tryz.func19 Tryz.call19 Tryz.ntmps19 Tryz.results19 fun hfit => ?_
 unfold r08_Compare_body at h
 refine AW.kr [] [0, 1] ?_
 refine AW.ks [0, 1] [2, 3] ?_
 refine AW.one ?_
 refine AW.ro ?_
 refine cm h r08_less_ok fun r1 hx2 h => ?_
 refine AW.kr [0, 1] [2, 3, 5] ?_
 refine AW.ks [0, 1] [2, 3, 5, 17] ?_
 refine AW.tk h (fun hb3 h => ?_) fun hb3 h => ?_
 ·refine AW.ro ?_
  refine AW.ret ?_
  cases h; refine nz ?_; exact .same _
 refine AW.ks [0, 1] [2, 3] ?_
 refine AW.one ?_
 refine AW.ro ?_
 refine AW.ks [0, 1] [2, 3, 23] ?_
 refine AW.tk h (fun hb4 h => ?_) fun hb4 h => ?_
 ·refine AW.one ?_
  refine AW.ro ?_
  refine AW.ks [] [28] ?_
  refine AW.tk h (fun hb5 h => ?_) fun hb5 h => ?_
  ·refine AW.ro ?_
   refine AW.ret ?_
   cases h; refine nz ?_; exact .same _
  refine AW.kr [] [] ?_
  refine AW.ret ?_
  cases h; refine nz ?_; exact .same _
 refine AW.ks [0, 1] [2, 3] ?_
 refine AW.one ?_
 refine AW.ro ?_
 refine AW.ks [0, 1] [2, 3, 35] ?_
 refine AW.tk h (fun hb6 h => ?_) fun hb6 h => ?_
 ·refine AW.one ?_
  refine AW.ro ?_
  refine AW.ks [] [38] ?_
  refine AW.tk h (fun hb7 h => ?_) fun hb7 h => ?_
  ·refine AW.ro ?_
   refine AW.ret ?_
   cases h; refine nz ?_; exact .same _
  refine AW.kr [] [] ?_
  refine AW.ret ?_
  cases h; refine nz ?_; exact .same _
 refine AW.ks [0, 1] [2, 3] ?_
 refine AW.one ?_
 refine AW.ro ?_
 refine cm h r08_words_ok fun r8 hx9 h => ?_
 refine AW.kr [0, 1] [2, 3, 6] ?_
 refine AW.ks [0, 1] [2, 3, 6, 47] ?_
 refine AW.tk h (fun hb10 h => ?_) fun hb10 h => ?_
 ·refine AW.ro ?_
  refine AW.ret ?_
  cases h; refine nz ?_; exact .same _
 refine AW.ks [0, 1] [2, 3] ?_
 refine AW.one ?_
 refine AW.ro ?_
 refine cm h r08_words_ok fun r11 hx12 h => ?_
 refine AW.kr [0, 1] [2, 3, 7] ?_
 refine AW.ks [0, 1] [2, 3, 7, 57] ?_
 refine AW.tk h (fun hb13 h => ?_) fun hb13 h => ?_
 ·refine AW.ro ?_
  refine AW.ret ?_
  cases h; refine nz ?_; exact .same _
 refine AW.ks [0, 1] [2, 3] ?_
 refine AW.one ?_
 refine AW.ro ?_
 refine cm h r08_less_ok fun r14 hx15 h => ?_
 refine AW.kr [0, 1] [2, 3, 8] ?_
 refine AW.ks [0, 1] [2, 3, 8, 67] ?_
 refine AW.tk h (fun hb16 h => ?_) fun hb16 h => ?_
 ·refine AW.ro ?_
  refine AW.ret ?_
  cases h; refine nz ?_; exact .same _
 refine AW.ks [0, 1] [2, 3] ?_
 refine AW.one ?_
 refine AW.ro ?_
 refine AW.ks [0, 1] [2, 3, 9] ?_
 refine AW.lp h (fun _ => []) (fun _ => []) (fun i17_0 => [(2, .ptr 0 6 0 0), (3, .ptr 1 6 0 0), (9, vI i17_0)]) (fun i17_0 => [vE p0.enc, vE p1.enc]) [0, 1] (fun oJ20 hJ20 again i17_0 h => ?_) fun ⟨⟩ h => ?_
 ·refine AW.one ?_
  refine AW.ro ?_
  refine AW.ks [0, 1] [2, 3, 9, 73] ?_
  refine AW.tt h (fun hb21 h => ?_) fun hb21 h => ?_
  ·refine AW.sk ?_
   refine AW.ks [0, 1] [2, 3, 9] ?_
   refine AW.one ?_
   refine AW.block ?_
   refine AW.ro ?_
   refine bx h fun x22 h0 h1 h => ?_
   refine bx h fun x24 h0 h1 h => ?_
   refine pm h (hself19 _ _) fun r26 hx27 h => ?_
   refine AW.kr [0, 1] [2, 3, 9, 10] ?_
   refine AW.ks [0, 1] [2, 3, 9, 10, 88] ?_
   refine AW.tk h (fun hb28 h => ?_) fun hb28 h => ?_
   ·refine AW.ro ?_
    refine AW.ret ?_
    have h := up h hJ20
    cases h; refine nz ?_; exact .same _
   refine AW.ks [0, 1] [2, 3, 9] ?_
   refine AW.rp ?_
   exact na [0, 1] h
  refine AW.ex ?_
  exact jo [] h
 refine AW.kr [] [] ?_
 refine AW.ret ?_
 cases h; refine nz ?_; exact .same _
def r08_Compare (K : Nat) (p0 : NodeA) (p1 : NodeA) : Option Int := iter K (fun self q => r08_Compare_body K self q.1 q.2) (p0, p1)
theorem key_r08_Compare {K : Nat} (k : Nat) : (∀ (q : NodeA × NodeA) (r : Int), iter k (fun self q => r08_Compare_body K self q.1 q.2) q = some r → Cn Tryz.prog 19 [aggV q.1.enc, aggV q.2.enc] (.d (.val (.int .i64 r)))) := by
 induction k with
 | zero => exact fun q r h => by cases h
 | succ k ih => exact fun q r h => r08_Compare_step K _ ih q.1 q.2 r h
theorem r08_Compare_ok {K : Nat} {p0 : NodeA} {p1 : NodeA} {r : Int} (h : r08_Compare K p0 p1 = some r) : Cn Tryz.prog 19 [aggV p0.enc, aggV p1.enc] (.d (.val (.int .i64 r))) := (key_r08_Compare K) (p0, p1) r h
/-! ### isochrone/isochroneref08.Equal -/
def r08_Equal (K : Nat) (p0 : NodeA) (p1 : NodeA) : Option Bool := (r08_Compare K p0 p1).bind fun r1 =>
 some (r1 == (0 : Int))
set_option maxHeartbeats 4000000 in
theorem r08_Equal_ok {K : Nat} {p0 : NodeA} {p1 : NodeA} {r : Bool} (h : r08_Equal K p0 p1 = some r) : Cn Tryz.prog 10 [aggV p0.enc, aggV p1.enc] (.d (.val (.bool r))) := by
 refine Cn.oz Tryz.func10 Tryz.call10 Tryz.ntmps10 Tryz.results10 fun hfit => ?_
 unfold r08_Equal at h
 refine AW.kr [] [0, 1] ?_
 refine AW.kr [0, 1] [2, 3] ?_
 refine cm h r08_Compare_ok fun r1 hx2 h => ?_
 refine AW.ret ?_
 cases h; refine nz ?_; exact .same _
/-! ### isochrone/static.symbol -/
def static_symbol (K : Nat) (p0 : NodeA) : Option (NodeA × Bool) := ((
  ((
   if (p0.op == (10 : Int)) then
    some (p0.op == (10 : Int))
   else
    some (p0.op == (37 : Int))) : Option Bool).bind (fun v3_0 =>
  if v3_0 then
   ((
    if (decide ((0 : Int) < (p0.kids.length : Int))) then
     some [(NodeA.mk (13 : Int) (⟨#[]⟩ : ByteArray) (RatA.mk false [] []) [])]
    else
     some []) : Option (List NodeA)).bind (fun v7_0 =>
   outM (
    some ((NodeA.mk p0.op p0.name (RatA.mk false [] []) v7_0), true)))
  else
   ((
    if (p0.op == (11 : Int)) then
     some (p0.op == (11 : Int))
    else
     if (p0.op == (38 : Int)) then
      some (p0.op == (38 : Int))
     else
      if (p0.op == (61 : Int)) then
       some (p0.op == (61 : Int))
      else
       if (p0.op == (62 : Int)) then
        some (p0.op == (62 : Int))
       else
        some (p0.op == (56 : Int))) : Option Bool).bind (fun v10_0 =>
   if v10_0 then
    outM (
     some ((NodeA.mk p0.op p0.name (RatA.mk false [] []) []), true))
   else
    some (.go ())))) : Option (Out Unit _)).bind (Out.fin fun _ =>
 some ((NodeA.mk (0 : Int) (⟨#[]⟩ : ByteArray) (RatA.mk false [] []) []), false))
set_option maxHeartbeats 4000000 in
theorem static_symbol_ok {K : Nat} {p0 : NodeA} {r : NodeA × Bool} (h : static_symbol K p0 = some r) : Cn Tryz.prog 95 [aggV p0.enc] (.tup [aggV r.1.enc, .d (.val (.bool r.2))]) := by
 refine Cn.oz Tryz.func95 Tryz.call95 Tryz.ntmps95 Tryz.results95 fun hfit => ?_
 unfold static_symbol at h
 refine AW.kr [] [0] ?_
 refine AW.ks [0, 1] [1, 2] ?_
 refine AW.jo h (fun _ => [(2, .ptr 0 6 0 0)]) (fun _ => [some ⟨6, [[vI (0 : Int), vS (⟨#[]⟩ : ByteArray), vB false, .d (.val (.slice none 0 0)), .d (.val (.slice none 0 0)), .d (.val (.slice none 0 0))]]⟩]) (fun oJ2 h hJ2 => ?_) fun ⟨⟩ h => ?_
 ·refine AW.ro ?_
  refine AW.ks [0, 1] [1, 2, 6] ?_
  refine AW.block ?_
  refine AW.jn h (fun v3_0 => [(1, .ptr 0 6 0 0), (2, .ptr 1 6 0 0), (6, vI p0.op), (7, vB v3_0)]) (fun v3_0 => [vE p0.enc, some ⟨6, [[vI (0 : Int), vS (⟨#[]⟩ : ByteArray), vB false, .d (.val (.slice none 0 0)), .d (.val (.slice none 0 0)), .d (.val (.slice none 0 0))]]⟩]) (fun oJ4 h => ?_) fun v3_0 h => ?_
  ·refine AW.ro ?_
   refine AW.ks [0, 1] [1, 2, 6, 7] ?_
   refine AW.tt h (fun hb5 h => ?_) fun hb5 h => ?_
   ·refine AW.sk ?_
    exact ja [0, 1] h
   refine AW.rp ?_
   exact ja [0, 1] h
  refine AW.tt h (fun hb6 h => ?_) fun hb6 h => ?_
  ·refine AW.ro ?_
   refine AW.ks [0, 1, 7] [1, 2, 4] ?_
   refine AW.jn h (fun v7_0 => [(2, .ptr 0 6 0 0), (4, .ptr 1 6 0 0)]) (fun v7_0 => [some ⟨6, [[vI (0 : Int), vS (⟨#[]⟩ : ByteArray), vB false, .d (.val (.slice none 0 0)), .d (.val (.slice none 0 0)), .d (.val (.slice none 0 0))]]⟩, some ⟨6, [[vI p0.op, vS p0.name, vB false, .d (.val (.slice none 0 0)), .d (.val (.slice none 0 0)), vL NodeA.enc v7_0]]⟩]) (fun oJ8 h => ?_) fun v7_0 h => ?_
   ·refine AW.ro ?_
    refine AW.ks [1, 2] [2, 4, 18] ?_
    refine AW.tk h (fun hb9 h => ?_) fun hb9 h => ?_
    ·refine AW.rp ?_
     refine JoinQ.mkS [(NodeA.mk (13 : Int) (⟨#[]⟩ : ByteArray) (RatA.mk false [] []) [])] [0, 1] [] [] [(1, ⟨6, [[.d (.val (.int .i64 p0.op)), .d (.val (.string p0.name)), .d (.val (.bool false)), .d (.val (.slice none 0 0)), .d (.val (.slice none 0 0)), .d (slD NodeA.enc [(NodeA.mk (13 : Int) (⟨#[]⟩ : ByteArray) (RatA.mk false [] []) [])])]]⟩)] (Option.some.inj h) (by simp only [go_sem, reduceEqDiff, reduceAdd, reduceSub, reduceMul, reduceLeDiff, reduceLT, Nat.reduceBEq, reduceIte, sealL_cons, sealL_nil]) (by simp only [go_sem, reduceEqDiff, reduceAdd, reduceSub, reduceMul, reduceLeDiff, reduceLT, Nat.reduceBEq, reduceIte, sealH_cons, sealH_nil]; exact ⟨⟨.same _, .same _, .same _, .same _, .same _, .d (.dn (.rows (by (try simp only [slD, NodeA.enc_eta, RatA.enc_eta, NodeA.op_mk, NodeA.name_mk, NodeA.num_mk, NodeA.kids_mk, aggV, i64V, u32V, strV, List.map_cons, List.map_nil]); exact ⟨⟨.refl _, .refl _, .refl _, .nil _ _, .nil _ _, .nil _ _, trivial⟩, trivial⟩))), trivial⟩, trivial⟩) (by simp only [go_sem, reduceEqDiff, reduceAdd, reduceSub, reduceMul, reduceLeDiff, reduceLT, Nat.reduceBEq, reduceIte])
    refine JoinQ.mkS [] [0, 1] [] [] [(1, ⟨6, [[.d (.val (.int .i64 p0.op)), .d (.val (.string p0.name)), .d (.val (.bool false)), .d (.val (.slice none 0 0)), .d (.val (.slice none 0 0)), .d (slD NodeA.enc [])]]⟩)] (Option.some.inj h) (by simp only [go_sem, reduceEqDiff, reduceAdd, reduceSub, reduceMul, reduceLeDiff, reduceLT, Nat.reduceBEq, reduceIte, sealL_cons, sealL_nil]) (by simp only [go_sem, reduceEqDiff, reduceAdd, reduceSub, reduceMul, reduceLeDiff, reduceLT, Nat.reduceBEq, reduceIte, sealH_cons, sealH_nil]; exact ⟨⟨.same _, .same _, .same _, .same _, .same _, .nil, trivial⟩, trivial⟩) (by simp only [go_sem, reduceEqDiff, reduceAdd, reduceSub, reduceMul, reduceLeDiff, reduceLT, Nat.reduceBEq, reduceIte])
   refine AW.ro ?_
   refine AW.ret ?_
   have h := up h hJ2
   cases h; refine nz ?_; exact .tupL ⟨.aggL ⟨.same _, .same _, .same _, .nil, .nil, .same _, trivial⟩, .same _, trivial⟩
  refine AW.jn h (fun v10_0 => [(1, .ptr 0 6 0 0), (2, .ptr 1 6 0 0), (23, vB v10_0)]) (fun v10_0 => [vE p0.enc, some ⟨6, [[vI (0 : Int), vS (⟨#[]⟩ : ByteArray), vB false, .d (.val (.slice none 0 0)), .d (.val (.slice none 0 0)), .d (.val (.slice none 0 0))]]⟩]) (fun oJ11 h => ?_) fun v10_0 h => ?_
  ·refine AW.ro ?_
   refine AW.ks [0, 1] [1, 2, 6, 23] ?_
   refine AW.tt h (fun hb12 h => ?_) fun hb12 h => ?_
   ·refine AW.sk ?_
    exact ja [0, 1] h
   refine AW.ro ?_
   refine AW.ks [0, 1] [1, 2, 6, 23] ?_
   refine AW.tt h (fun hb13 h => ?_) fun hb13 h => ?_
   ·refine AW.sk ?_
    exact ja [0, 1] h
   refine AW.ro ?_
   refine AW.ks [0, 1] [1, 2, 6, 23] ?_
   refine AW.tt h (fun hb14 h => ?_) fun hb14 h => ?_
   ·refine AW.sk ?_
    exact ja [0, 1] h
   refine AW.ro ?_
   refine AW.ks [0, 1] [1, 2, 6, 23] ?_
   refine AW.tt h (fun hb15 h => ?_) fun hb15 h => ?_
   ·refine AW.sk ?_
    exact ja [0, 1] h
   refine AW.rp ?_
   exact ja [0, 1] h
  refine AW.tk h (fun hb16 h => ?_) fun hb16 h => ?_
  ·refine AW.ro ?_
   refine AW.ret ?_
   have h := up h hJ2
   cases h; refine nz ?_; exact .tupL ⟨.aggL ⟨.same _, .same _, .same _, .nil, .nil, .nil, trivial⟩, .same _, trivial⟩
  exact jo [1] h
 refine AW.ro ?_
 refine AW.ret ?_
 cases h; refine nz ?_; exact .tupL ⟨.aggL ⟨.same _, .same _, .same _, .nil, .nil, .nil, trivial⟩, .same _, trivial⟩
/-! ### isochrone/static.SymbolOf -/
def static_SymbolOf (K : Nat) (p0 : NodeA) : Option (NodeA × Bool) := (static_symbol K p0).bind fun r1 =>
 some (r1.1, r1.2)
set_option maxHeartbeats 4000000 in
theorem static_SymbolOf_ok {K : Nat} {p0 : NodeA} {r : NodeA × Bool} (h : static_SymbolOf K p0 = some r) : Cn Tryz.prog 60 [aggV p0.enc] (.tup [aggV r.1.enc, .d (.val (.bool r.2))]) := by
 refine Cn.oz Tryz.func60 Tryz.call60 Tryz.ntmps60 Tryz.results60 fun hfit => ?_
 unfold static_SymbolOf at h
 refine AW.kr [] [0] ?_
 refine AW.kr [0, 1] [1, 2] ?_
 refine cm h static_symbol_ok fun r1 hx2 h => ?_
 refine AW.ret ?_
 cases h; refine nz ?_; exact .same _
/-! ### isochrone/static.Uses -/
def static_Uses_body (K : Nat) (self79 : (NodeA × (List Int)) → Option Bool) (p0 : NodeA) (p1 : List Int) : Option Bool := ((iter (S := Int) (R := Out Unit _) K (fun again i1_0 =>
  if (decide (i1_0 < (p1.length : Int))) then
   (idx p1 i1_0).bind fun x6 =>
   if (p0.op == x6) then
    outM (
     some true)
   else
    again (IntKind.wrap .i64 (i1_0 + (1 : Int)))
  else
   some (.go ())) (0 : Int)) : Option (Out Unit _)).bind (Out.fin fun _ =>
 ((iter (S := Int) (R := Out Unit _) K (fun again i9_0 =>
  if (decide (i9_0 < (p0.kids.length : Int))) then
   (idx p0.kids i9_0).bind fun x14 =>
   (self79 (x14, p1)).bind fun r16 =>
   if r16 then
    outM (
     some true)
   else
    again (IntKind.wrap .i64 (i9_0 + (1 : Int)))
  else
   some (.go ())) (0 : Int)) : Option (Out Unit _)).bind (Out.fin fun _ =>
 some false))
set_option maxHeartbeats 4000000 in
theorem static_Uses_step (K : Nat) (self79 : (NodeA × (List Int)) → Option Bool) (hself79 : ∀ (q : NodeA × (List Int)) (r : Bool), self79 q = some r → Cn Tryz.prog 79 [aggV q.1.enc, .d (slD i64V q.2)] (.d (.val (.bool r)))) (p0 : NodeA) (p1 : List Int) (r : Bool) (h : static_Uses_body K self79 p0 p1 = some r) : Cn Tryz.prog 79 [aggV p0.enc, .d (slD i64V p1)] (.d (.val (.bool r))) := by
 refine Cn.oz Tryz.func79 Tryz.call79 Tryz.ntmps79 Tryz.results79 fun hfit => ?_
 unfold static_Uses_body at h
 refine AW.kr [] [0, 1] ?_
 refine AW.ks [0] [1, 2] ?_
 refine AW.one ?_
 refine AW.ro ?_
 refine AW.ks [0] [1, 2, 9, 10, 11] ?_
 refine AW.lp h (fun _ => [(1, vL i64V p1), (2, .ptr 0 6 0 0)]) (fun _ => [vE p0.enc]) (fun i1_0 => [(1, vL i64V p1), (2, .ptr 0 6 0 0), (9, vL i64V p1), (10, vI (p1.length : Int)), (11, vI i1_0)]) (fun i1_0 => [vE p0.enc]) [0] (fun oJ4 hJ4 again i1_0 h => ?_) fun ⟨⟩ h => ?_
 ·refine AW.ro ?_
  refine AW.ks [0] [1, 2, 9, 10, 11, 12] ?_
  refine AW.one ?_
  refine AW.tt h (fun hb5 h => ?_) fun hb5 h => ?_
  ·refine AW.sk ?_
   refine AW.ks [0] [1, 2, 9, 10, 11] ?_
   refine AW.one ?_
   refine AW.block ?_
   refine AW.ro ?_
   refine bx h fun x6 h0 h1 h => ?_
   refine AW.kr [0] [1, 2, 6, 9, 10, 11] ?_
   refine AW.ks [0] [1, 2, 9, 10, 11, 18] ?_
   refine AW.tk h (fun hb8 h => ?_) fun hb8 h => ?_
   ·refine AW.ro ?_
    refine AW.ret ?_
    have h := up h hJ4
    cases h; refine nz ?_; exact .same _
   refine AW.ks [0] [1, 2, 9, 10, 11] ?_
   refine AW.rp ?_
   exact na [0] h
  refine AW.ex ?_
  exact jo [0] h
 refine AW.ks [0] [1, 2] ?_
 refine AW.one ?_
 refine AW.ro ?_
 refine AW.ks [] [1, 21, 22, 23] ?_
 refine AW.lp h (fun _ => []) (fun _ => []) (fun i9_0 => [(1, vL i64V p1), (21, vL NodeA.enc p0.kids), (22, vI (p0.kids.length : Int)), (23, vI i9_0)]) (fun i9_0 => []) [] (fun oJ12 hJ12 again i9_0 h => ?_) fun ⟨⟩ h => ?_
 ·refine AW.ro ?_
  refine AW.ks [] [1, 21, 22, 23, 24] ?_
  refine AW.one ?_
  refine AW.tt h (fun hb13 h => ?_) fun hb13 h => ?_
  ·refine AW.sk ?_
   refine AW.ks [] [1, 21, 22, 23] ?_
   refine AW.one ?_
   refine AW.block ?_
   refine AW.ro ?_
   refine bx h fun x14 h0 h1 h => ?_
   refine AW.kr [2] [1, 8, 21, 22, 23] ?_
   refine cm h (hself79 _ _) fun r16 hx17 h => ?_
   refine AW.ks [] [1, 21, 22, 23, 29] ?_
   refine AW.tk h (fun hb18 h => ?_) fun hb18 h => ?_
   ·refine AW.ro ?_
    refine AW.ret ?_
    have h := up h hJ12
    cases h; refine nz ?_; exact .same _
   refine AW.ks [] [1, 21, 22, 23] ?_
   refine AW.rp ?_
   exact na [] h
  refine AW.ex ?_
  exact jo [] h
 refine AW.kr [] [] ?_
 refine AW.ret ?_
 cases h; refine nz ?_; exact .same _
def static_Uses (K : Nat) (p0 : NodeA) (p1 : List Int) : Option Bool := iter K (fun self q => static_Uses_body K self q.1 q.2) (p0, p1)
theorem key_static_Uses {K : Nat} (k : Nat) : (∀ (q : NodeA × (List Int)) (r : Bool), iter k (fun self q => static_Uses_body K self q.1 q.2) q = some r → Cn Tryz.prog 79 [aggV q.1.enc, .d (slD i64V q.2)] (.d (.val (.bool r)))) := by
 induction k with
 | zero => exact fun q r h => by cases h
 | succ k ih => exact fun q r h => static_Uses_step K _ ih q.1 q.2 r h
theorem static_Uses_ok {K : Nat} {p0 : NodeA} {p1 : List Int} {r : Bool} (h : static_Uses K p0 p1 = some r) : Cn Tryz.prog 79 [aggV p0.enc, .d (slD i64V p1)] (.d (.val (.bool r))) := (key_static_Uses K) (p0, p1) r h
/-! ### isochrone/subst.flow -/
def subst_flow (K : Nat) (p0 : List NodeA) : Option NodeA := (must (!p0.isEmpty)).bind fun _ =>
 (appO 104 [] p0).bind fun l1 =>
 (appO 104 l1 [(NodeA.mk (20 : Int) (⟨#[]⟩ : ByteArray) (RatA.mk false [] []) [])]).bind fun l4 =>
 some (NodeA.mk (54 : Int) (⟨#[]⟩ : ByteArray) (RatA.mk false [] []) l4)
set_option maxHeartbeats 4000000 in
theorem subst_flow_ok {K : Nat} {p0 : List NodeA} {r : NodeA} (h : subst_flow K p0 = some r) : Cn Tryz.prog 78 [.d (slD NodeA.enc p0)] (aggV r.enc) := by
 refine Cn.ofA mixed Tryz.func78 rfl Tryz.call78 Tryz.ntmps78 Tryz.results78 (by simp) (by simp only [go_sem, reduceEqDiff, reduceAdd, reduceSub, reduceMul, reduceLeDiff, reduceLT, Nat.reduceBEq, reduceIte]) fun hfit => ?_
 unfold subst_flow at h
 refine AW.kp [] [0] ?_
 refine AW.op mixed ?_
 refine AW.kp [0] [0, 2] ?_
 refine AW.op mixed ?_
 apply obindE h; intro _ hx3 h
 apply obindE h; intro l1 hx2 h
 refine appN (f := NodeA.enc) hx2 rfl trivial (by simp only [go_sem, reduceEqDiff, reduceAdd, reduceSub, reduceMul, reduceLeDiff, reduceLT, Nat.reduceBEq, reduceIte]) (by simp only [go_sem, reduceEqDiff, reduceAdd, reduceSub, reduceMul, reduceLeDiff, reduceLT, Nat.reduceBEq, reduceIte]) (must_ne0 hx3) ?_
 try simp only [go_sem, reduceEqDiff, reduceAdd, reduceSub, reduceMul, reduceLeDiff, reduceLT, Nat.reduceBEq, reduceIte]
 refine AW.cu [0, 2] [(2, .ptr 0 6 0 0), (3, accV 1 6 ((l1.map NodeA.enc).map (·.map .d)))] [some ⟨6, [[.d (.val (.int .i64 (0 : Int))), .d (.val (.string (⟨#[]⟩ : ByteArray))), .d (.val (.bool false)), .d (.val (.slice none 0 0)), .d (.val (.slice none 0 0)), .d (.val (.slice none 0 0))]]⟩, accO 6 ((l1.map NodeA.enc).map (·.map .d))] ?_
 refine AW.op mixed ?_
 apply obindE h; intro l4 hx5 h
 refine appNil (b := .sl [[.val (.int .i64 (20 : Int)), .val (.string (⟨#[]⟩ : ByteArray)), .val (.bool false), slD u32V [], slD u32V [], slD NodeA.enc []]]) (.rows (by (try simp only [slD, NodeA.enc_eta, RatA.enc_eta, NodeA.op_mk, NodeA.name_mk, NodeA.num_mk, NodeA.kids_mk, aggV, i64V, u32V, strV, List.map_cons, List.map_nil]); exact ⟨⟨.refl _, .refl _, .refl _, .nil _ _, .nil _ _, .nil _ _, trivial⟩, trivial⟩)) ?_
 refine appG hx5 rfl (by simp only [go_sem, reduceEqDiff, reduceAdd, reduceSub, reduceMul, reduceLeDiff, reduceLT, Nat.reduceBEq, reduceIte]) (by simp only [go_sem, reduceEqDiff, reduceAdd, reduceSub, reduceMul, reduceLeDiff, reduceLT, Nat.reduceBEq, reduceIte]) (by simp only [go_sem, reduceEqDiff, reduceAdd, reduceSub, reduceMul, reduceLeDiff, reduceLT, Nat.reduceBEq, reduceIte]) (by simp) ?_
 try simp only [go_sem, reduceEqDiff, reduceAdd, reduceSub, reduceMul, reduceLeDiff, reduceLT, Nat.reduceBEq, reduceIte]
 refine AW.cu [0, 5] [(2, .ptr 0 6 0 0), (3, accV 1 6 ((l4.map NodeA.enc).map (·.map .d)))] [some ⟨6, [[.d (.val (.int .i64 (0 : Int))), .d (.val (.string (⟨#[]⟩ : ByteArray))), .d (.val (.bool false)), .d (.val (.slice none 0 0)), .d (.val (.slice none 0 0)), .d (.val (.slice none 0 0))]]⟩, accO 6 ((l4.map NodeA.enc).map (·.map .d))] ?_
 refine AW.op mixed ?_
 refine AW.ret ?_
 obtain rfl := Option.some.inj h
 refine nz ?_
 exact .aggL ⟨.same _, .same _, .same _, .nil, .nil, sealAcc (by simp only [go_sem, reduceEqDiff, reduceAdd, reduceSub, reduceMul, reduceLeDiff, reduceLT, Nat.reduceBEq, reduceIte]), trivial⟩
/-! ### isochrone/tree.Sort -/
def tree_Sort (K : Nat) (p0 : Int) : Option Int := ((
  if (decide ((1 : Int) ≤ p0)) then
   some (decide (p0 ≤ (13 : Int)))
  else
   some false) : Option Bool).bind (fun v1_0 =>
 if v1_0 then
  some (1 : Int)
 else
  ((
   if (decide ((20 : Int) ≤ p0)) then
    some (decide (p0 ≤ (39 : Int)))
   else
    some false) : Option Bool).bind (fun v5_0 =>
  if v5_0 then
   some (2 : Int)
  else
   ((
    if (p0 == (55 : Int)) then
     some true
    else
     some (p0 == (56 : Int))) : Option Bool).bind (fun v9_0 =>
   if v9_0 then
    some (4 : Int)
   else
    ((
     if (decide ((50 : Int) ≤ p0)) then
      some (decide (p0 ≤ (62 : Int)))
     else
      some false) : Option Bool).bind (fun v13_0 =>
    if v13_0 then
     some (3 : Int)
    else
     some (0 : Int)))))
set_option maxHeartbeats 4000000 in
theorem tree_Sort_ok {K : Nat} {p0 : Int} {r : Int} (h : tree_Sort K p0 = some r) : Cn Tryz.prog 20 [.d (.val (.int .i64 p0))] (.d (.val (.int .i64 r))) := by
 refine Cn.oz Tryz.func20 Tryz.call20 Tryz.ntmps20 Tryz.results20 fun hfit => ?_
 unfold tree_Sort at h
 refine AW.kr [] [0] ?_
 refine AW.ks [] [0] ?_
 refine AW.one ?_
 refine AW.block ?_
 refine AW.jn h (fun v1_0 => [(0, vI p0), (3, vB v1_0)]) (fun v1_0 => []) (fun oJ2 h => ?_) fun v1_0 h => ?_
 ·refine AW.rp ?_
  refine sK h (fun hb3 h => ?_) fun hb3 h => ?_
  ·exact ja [] h
  exact ja [] h
 refine AW.tt h (fun hb4 h => ?_) fun hb4 h => ?_
 ·refine AW.ro ?_
  refine AW.ret ?_
  cases h; refine nz ?_; exact .same _
 refine AW.jn h (fun v5_0 => [(0, vI p0), (10, vB v5_0)]) (fun v5_0 => []) (fun oJ6 h => ?_) fun v5_0 h => ?_
 ·refine AW.rp ?_
  refine sK h (fun hb7 h => ?_) fun hb7 h => ?_
  ·exact ja [] h
  exact ja [] h
 refine AW.tt h (fun hb8 h => ?_) fun hb8 h => ?_
 ·refine AW.ro ?_
  refine AW.ret ?_
  cases h; refine nz ?_; exact .same _
 refine AW.jn h (fun v9_0 => [(0, vI p0), (17, vB v9_0)]) (fun v9_0 => []) (fun oJ10 h => ?_) fun v9_0 h => ?_
 ·refine AW.rp ?_
  refine sK h (fun hb11 h => ?_) fun hb11 h => ?_
  ·exact ja [] h
  exact ja [] h
 refine AW.tt h (fun hb12 h => ?_) fun hb12 h => ?_
 ·refine AW.ro ?_
  refine AW.ret ?_
  cases h; refine nz ?_; exact .same _
 refine AW.jn h (fun v13_0 => [(24, vB v13_0)]) (fun v13_0 => []) (fun oJ14 h => ?_) fun v13_0 h => ?_
 ·refine AW.rp ?_
  refine sK h (fun hb15 h => ?_) fun hb15 h => ?_
  ·exact ja [] h
  exact ja [] h
 refine AW.tk h (fun hb16 h => ?_) fun hb16 h => ?_
 ·refine AW.ro ?_
  refine AW.ret ?_
  cases h; refine nz ?_; exact .same _
 refine AW.kr [] [] ?_
 refine AW.ret ?_
 cases h; refine nz ?_; exact .same _
/-! ### isochrone/tree.letter -/
def tree_letter (K : Nat) (p0 : Int) : Option Bool := if (decide ((97 : Int) ≤ p0)) then
  if (decide (p0 ≤ (122 : Int))) then
   some true
  else
   if (decide ((65 : Int) ≤ p0)) then
    some (decide (p0 ≤ (90 : Int)))
   else
    some false
 else
  if (decide ((65 : Int) ≤ p0)) then
   some (decide (p0 ≤ (90 : Int)))
  else
   some false
set_option maxHeartbeats 4000000 in
theorem tree_letter_ok {K : Nat} {p0 : Int} {r : Bool} (h : tree_letter K p0 = some r) : Cn Tryz.prog 127 [.d (.val (.int .u8 p0))] (.d (.val (.bool r))) := by
 refine Cn.oz Tryz.func127 Tryz.call127 Tryz.ntmps127 Tryz.results127 fun hfit => ?_
 unfold tree_letter at h
 refine AW.kr [] [0] ?_
 refine AW.kr [] [0] ?_
 refine sK h (fun hb1 h => ?_) fun hb1 h => ?_
 ·refine sK h (fun hb2 h => ?_) fun hb2 h => ?_
  ·refine AW.ret ?_
   cases h; refine nz ?_; exact .same _
  refine sK h (fun hb3 h => ?_) fun hb3 h => ?_
  ·refine AW.ret ?_
   cases h; refine nz ?_; exact .same _
  refine AW.ret ?_
  cases h; refine nz ?_; exact .same _
 refine sK h (fun hb4 h => ?_) fun hb4 h => ?_
 ·refine AW.ret ?_
  cases h; refine nz ?_; exact .same _
 refine AW.ret ?_
 cases h; refine nz ?_; exact .same _
/-! ### isochrone/tree.Name -/
def tree_Name (K : Nat) (p0 : ByteArray) : Option Bool := ((
  ((
   if ((p0.size : Int) == (0 : Int)) then
    some true
   else
    if (decide ((12 : Int) < (p0.size : Int))) then
     some true
    else
     (strAt p0 (0 : Int)).bind fun c7 =>
     (tree_letter K (c7.toNat : Int)).bind fun r9 =>
     some (!r9)) : Option Bool).bind (fun v3_0 =>
  if v3_0 then
   outM (
    some false)
  else
   some (.go ()))) : Option (Out Unit _)).bind (Out.fin fun _ =>
 ((iter (S := Int) (R := Out Unit _) K (fun again i12_0 =>
  if (decide (i12_0 < (p0.size : Int))) then
   ((
    ((
     (strAt p0 i12_0).bind fun c21 =>
     (tree_letter K (c21.toNat : Int)).bind fun r23 =>
     if (!r23) then
      if (decide ((c21.toNat : Int) < (48 : Int))) then
       some true
      else
       some (decide ((57 : Int) < (c21.toNat : Int)))
     else
      some false) : Option Bool).bind (fun v19_0 =>
    if v19_0 then
     outM (
      outM (
       some false))
    else
     some (.go ()))) : Option (Out Unit _)).bind (Out.fin fun _ =>
   again (IntKind.wrap .i64 (i12_0 + (1 : Int))))
  else
   some (.go ())) (0 : Int)) : Option (Out Unit _)).bind (Out.fin fun _ =>
 ((
  if (p0.toList == (⟨#[116, 114, 117, 101]⟩ : ByteArray).toList) then
   some (p0.toList == (⟨#[116, 114, 117, 101]⟩ : ByteArray).toList)
  else
   if (p0.toList == (⟨#[102, 97, 108, 115, 101]⟩ : ByteArray).toList) then
    some (p0.toList == (⟨#[102, 97, 108, 115, 101]⟩ : ByteArray).toList)
   else
    if (p0.toList == (⟨#[102, 111, 114, 97, 108, 108]⟩ : ByteArray).toList) then
     some (p0.toList == (⟨#[102, 111, 114, 97, 108, 108]⟩ : ByteArray).toList)
    else
     some (p0.toList == (⟨#[101, 120, 105, 115, 116, 115]⟩ : ByteArray).toList)) : Option Bool).bind (fun v28_0 =>
 if v28_0 then
  some false
 else
  some true)))
set_option maxHeartbeats 4000000 in
theorem tree_Name_ok {K : Nat} {p0 : ByteArray} {r : Bool} (h : tree_Name K p0 = some r) : Cn Tryz.prog 77 [.d (.val (.string p0))] (.d (.val (.bool r))) := by
 refine Cn.oz Tryz.func77 Tryz.call77 Tryz.ntmps77 Tryz.results77 fun hfit => ?_
 unfold tree_Name at h
 refine AW.kr [] [0] ?_
 refine AW.ks [] [0] ?_
 refine AW.jo h (fun _ => [(0, vS p0)]) (fun _ => []) (fun oJ2 h hJ2 => ?_) fun ⟨⟩ h => ?_
 ·refine AW.jn h (fun v3_0 => [(0, vS p0), (17, vB v3_0)]) (fun v3_0 => []) (fun oJ4 h => ?_) fun v3_0 h => ?_
  ·refine AW.rp ?_
   refine sK h (fun hb5 h => ?_) fun hb5 h => ?_
   ·exact ja [] h
   refine sK h (fun hb6 h => ?_) fun hb6 h => ?_
   ·exact ja [] h
   refine bb h fun c7 hx8 h => ?_
   refine cm h tree_letter_ok fun r9 hx10 h => ?_
   exact ja [] h
  refine AW.tk h (fun hb11 h => ?_) fun hb11 h => ?_
  ·refine AW.ro ?_
   refine AW.ret ?_
   have h := up h hJ2
   cases h; refine nz ?_; exact .same _
  exact jo [] h
 refine AW.one ?_
 refine AW.ro ?_
 refine AW.ks [] [0, 3] ?_
 refine AW.lp h (fun _ => [(0, vS p0)]) (fun _ => []) (fun i12_0 => [(0, vS p0), (3, vI i12_0)]) (fun i12_0 => []) [] (fun oJ15 hJ15 again i12_0 h => ?_) fun ⟨⟩ h => ?_
 ·refine AW.one ?_
  refine AW.ro ?_
  refine AW.ks [] [0, 3, 21] ?_
  refine AW.tt h (fun hb16 h => ?_) fun hb16 h => ?_
  ·refine AW.sk ?_
   refine AW.ks [] [0, 3] ?_
   refine AW.jo h (fun _ => [(0, vS p0), (3, vI i12_0)]) (fun _ => []) (fun oJ18 h hJ18 => ?_) fun ⟨⟩ h => ?_
   ·refine AW.block ?_
    refine AW.jn h (fun v19_0 => [(0, vS p0), (3, vI i12_0), (40, vB v19_0)]) (fun v19_0 => []) (fun oJ20 h => ?_) fun v19_0 h => ?_
    ·refine AW.rp ?_
     refine bb h fun c21 hx22 h => ?_
     refine cm h tree_letter_ok fun r23 hx24 h => ?_
     refine sK h (fun hb25 h => ?_) fun hb25 h => ?_
     ·refine sK h (fun hb26 h => ?_) fun hb26 h => ?_
      ·exact ja [] h
      exact ja [] h
     exact ja [] h
    refine AW.tk h (fun hb27 h => ?_) fun hb27 h => ?_
    ·refine AW.ro ?_
     refine AW.ret ?_
     have h := up h hJ18
     have h := up h hJ15
     cases h; refine nz ?_; exact .same _
    exact jo [] h
   refine AW.rp ?_
   exact na [] h
  refine AW.ex ?_
  exact jo [] h
 refine AW.ks [] [0] ?_
 refine AW.one ?_
 refine AW.ro ?_
 refine AW.ks [] [41] ?_
 refine AW.block ?_
 refine AW.jn h (fun v28_0 => [(42, vB v28_0)]) (fun v28_0 => []) (fun oJ29 h => ?_) fun v28_0 h => ?_
 ·refine AW.ro ?_
  refine AW.ks [] [41, 42] ?_
  refine AW.tt h (fun hb30 h => ?_) fun hb30 h => ?_
  ·refine AW.sk ?_
   exact ja [] h
  refine AW.ro ?_
  refine AW.ks [] [41, 42] ?_
  refine AW.tt h (fun hb31 h => ?_) fun hb31 h => ?_
  ·refine AW.sk ?_
   exact ja [] h
  refine AW.ro ?_
  refine AW.ks [] [41, 42] ?_
  refine AW.tt h (fun hb32 h => ?_) fun hb32 h => ?_
  ·refine AW.sk ?_
   exact ja [] h
  refine AW.rp ?_
  exact ja [] h
 refine AW.tk h (fun hb33 h => ?_) fun hb33 h => ?_
 ·refine AW.ro ?_
  refine AW.ret ?_
  cases h; refine nz ?_; exact .same _
 refine AW.kr [] [] ?_
 refine AW.ret ?_
 cases h; refine nz ?_; exact .same _
/-! ### isochrone/tree.differentiable -/
def tree_differentiable_body (K : Nat) (self84 : NodeA → Option Bool) (p0 : NodeA) : Option Bool := ((
  if (p0.op == (20 : Int)) then
   some (p0.op == (20 : Int))
  else
   if (p0.op == (21 : Int)) then
    some (p0.op == (21 : Int))
   else
    if (p0.op == (22 : Int)) then
     some (p0.op == (22 : Int))
    else
     if (p0.op == (23 : Int)) then
      some (p0.op == (23 : Int))
     else
      if (p0.op == (24 : Int)) then
       some (p0.op == (24 : Int))
      else
       if (p0.op == (25 : Int)) then
        some (p0.op == (25 : Int))
       else
        if (p0.op == (26 : Int)) then
         some (p0.op == (26 : Int))
        else
         if (p0.op == (27 : Int)) then
          some (p0.op == (27 : Int))
         else
          if (p0.op == (37 : Int)) then
           some (p0.op == (37 : Int))
          else
           some (p0.op == (38 : Int))) : Option Bool).bind (fun v1_0 =>
 if v1_0 then
  some true
 else
  ((
   if (p0.op == (29 : Int)) then
    some (p0.op == (29 : Int))
   else
    some (p0.op == (30 : Int))) : Option Bool).bind (fun v13_0 =>
  if v13_0 then
   ((iter (S := Int) (R := Out Unit _) K (fun again i17_0 =>
    if (decide (i17_0 < (p0.kids.length : Int))) then
     (idx p0.kids i17_0).bind fun x22 =>
     (self84 (x22)).bind fun r24 =>
     if (!r24) then
      outM (
       some false)
     else
      again (IntKind.wrap .i64 (i17_0 + (1 : Int)))
    else
     some (.go ())) (0 : Int)) : Option (Out Unit _)).bind (Out.fin fun _ =>
   some true)
  else
   some false))
set_option maxHeartbeats 4000000 in
theorem tree_differentiable_step (K : Nat) (self84 : NodeA → Option Bool) (hself84 : ∀ (q : NodeA) (r : Bool), self84 q = some r → Cn Tryz.prog 84 [aggV q.enc] (.d (.val (.bool r)))) (p0 : NodeA) (r : Bool) (h : tree_differentiable_body K self84 p0 = some r) : Cn Tryz.prog 84 [aggV p0.enc] (.d (.val (.bool r))) := by
 refine Cn.oz Tryz.func84 Tryz.call84 Tryz.ntmps84 Tryz.results84 fun hfit => ?_
 unfold tree_differentiable_body at h
 refine AW.kr [] [0] ?_
 refine AW.ks [0] [1] ?_
 refine AW.one ?_
 refine AW.ro ?_
 refine AW.ks [0] [1, 6] ?_
 refine AW.block ?_
 refine AW.jn h (fun v1_0 => [(1, .ptr 0 6 0 0), (6, vI p0.op), (7, vB v1_0)]) (fun v1_0 => [vE p0.enc]) (fun oJ2 h => ?_) fun v1_0 h => ?_
 ·refine AW.ro ?_
  refine AW.ks [0] [1, 6, 7] ?_
  refine AW.tt h (fun hb3 h => ?_) fun hb3 h => ?_
  ·refine AW.sk ?_
   exact ja [0] h
  refine AW.ro ?_
  refine AW.ks [0] [1, 6, 7] ?_
  refine AW.tt h (fun hb4 h => ?_) fun hb4 h => ?_
  ·refine AW.sk ?_
   exact ja [0] h
  refine AW.ro ?_
  refine AW.ks [0] [1, 6, 7] ?_
  refine AW.tt h (fun hb5 h => ?_) fun hb5 h => ?_
  ·refine AW.sk ?_
   exact ja [0] h
  refine AW.ro ?_
  refine AW.ks [0] [1, 6, 7] ?_
  refine AW.tt h (fun hb6 h => ?_) fun hb6 h => ?_
  ·refine AW.sk ?_
   exact ja [0] h
  refine AW.ro ?_
  refine AW.ks [0] [1, 6, 7] ?_
  refine AW.tt h (fun hb7 h => ?_) fun hb7 h => ?_
  ·refine AW.sk ?_
   exact ja [0] h
  refine AW.ro ?_
  refine AW.ks [0] [1, 6, 7] ?_
  refine AW.tt h (fun hb8 h => ?_) fun hb8 h => ?_
  ·refine AW.sk ?_
   exact ja [0] h
  refine AW.ro ?_
  refine AW.ks [0] [1, 6, 7] ?_
  refine AW.tt h (fun hb9 h => ?_) fun hb9 h => ?_
  ·refine AW.sk ?_
   exact ja [0] h
  refine AW.ro ?_
  refine AW.ks [0] [1, 6, 7] ?_
  refine AW.tt h (fun hb10 h => ?_) fun hb10 h => ?_
  ·refine AW.sk ?_
   exact ja [0] h
  refine AW.ro ?_
  refine AW.ks [0] [1, 6, 7] ?_
  refine AW.tt h (fun hb11 h => ?_) fun hb11 h => ?_
  ·refine AW.sk ?_
   exact ja [0] h
  refine AW.rp ?_
  exact ja [0] h
 refine AW.tt h (fun hb12 h => ?_) fun hb12 h => ?_
 ·refine AW.ro ?_
  refine AW.ret ?_
  cases h; refine nz ?_; exact .same _
 refine AW.jn h (fun v13_0 => [(1, .ptr 0 6 0 0), (18, vB v13_0)]) (fun v13_0 => [vE p0.enc]) (fun oJ14 h => ?_) fun v13_0 h => ?_
 ·refine AW.ro ?_
  refine AW.ks [0] [1, 6, 18] ?_
  refine AW.tt h (fun hb15 h => ?_) fun hb15 h => ?_
  ·refine AW.sk ?_
   exact ja [0] h
  refine AW.rp ?_
  exact ja [0] h
 refine AW.tk h (fun hb16 h => ?_) fun hb16 h => ?_
 ·refine AW.one ?_
  refine AW.ro ?_
  refine AW.ks [] [22, 23, 24] ?_
  refine AW.lp h (fun _ => []) (fun _ => []) (fun i17_0 => [(22, vL NodeA.enc p0.kids), (23, vI (p0.kids.length : Int)), (24, vI i17_0)]) (fun i17_0 => []) [] (fun oJ20 hJ20 again i17_0 h => ?_) fun ⟨⟩ h => ?_
  ·refine AW.ro ?_
   refine AW.ks [] [22, 23, 24, 25] ?_
   refine AW.one ?_
   refine AW.tt h (fun hb21 h => ?_) fun hb21 h => ?_
   ·refine AW.sk ?_
    refine AW.ks [] [22, 23, 24] ?_
    refine AW.one ?_
    refine AW.block ?_
    refine AW.ro ?_
    refine bx h fun x22 h0 h1 h => ?_
    refine AW.kr [2] [4, 22, 23, 24] ?_
    refine cm h (hself84 _ _) fun r24 hx25 h => ?_
    refine AW.ks [] [22, 23, 24, 30] ?_
    refine AW.tk h (fun hb26 h => ?_) fun hb26 h => ?_
    ·refine AW.ro ?_
     refine AW.ret ?_
     have h := up h hJ20
     cases h; refine nz ?_; exact .same _
    refine AW.ks [] [22, 23, 24] ?_
    refine AW.rp ?_
    exact na [] h
   refine AW.ex ?_
   exact jo [] h
  refine AW.kr [] [] ?_
  refine AW.ret ?_
  cases h; refine nz ?_; exact .same _
 refine AW.kr [] [] ?_
 refine AW.ret ?_
 cases h; refine nz ?_; exact .same _
def tree_differentiable (K : Nat) (p0 : NodeA) : Option Bool := iter K (fun self q => tree_differentiable_body K self q) p0
theorem key_tree_differentiable {K : Nat} (k : Nat) : (∀ (q : NodeA) (r : Bool), iter k (fun self q => tree_differentiable_body K self q) q = some r → Cn Tryz.prog 84 [aggV q.enc] (.d (.val (.bool r)))) := by
 induction k with
 | zero => exact fun q r h => by cases h
 | succ k ih => exact fun q r h => tree_differentiable_step K _ ih q r h
theorem tree_differentiable_ok {K : Nat} {p0 : NodeA} {r : Bool} (h : tree_differentiable K p0 = some r) : Cn Tryz.prog 84 [aggV p0.enc] (.d (.val (.bool r))) := (key_tree_differentiable K) p0 r h
/-! ### isochrone/num.valid -/
def num_valid (K : Nat) (p0 : List Int) (p1 : Int) : Option Bool := if (decide ((p0.length : Int) ≤ p1)) then
  if ((p0.length : Int) == (0 : Int)) then
   some true
  else
   (idx p0 (IntKind.wrap .i64 ((p0.length : Int) - (1 : Int)))).bind fun x3 =>
   some (x3 != (0 : Int))
 else
  some false
set_option maxHeartbeats 4000000 in
theorem num_valid_ok {K : Nat} {p0 : List Int} {p1 : Int} {r : Bool} (h : num_valid K p0 p1 = some r) : Cn Tryz.prog 163 [.d (slD u32V p0), .d (.val (.int .i64 p1))] (.d (.val (.bool r))) := by
 refine Cn.oz Tryz.func163 Tryz.call163 Tryz.ntmps163 Tryz.results163 fun hfit => ?_
 unfold num_valid at h
 refine AW.kr [] [0, 1] ?_
 refine AW.kr [] [0, 1] ?_
 refine sK h (fun hb1 h => ?_) fun hb1 h => ?_
 ·refine sK h (fun hb2 h => ?_) fun hb2 h => ?_
  ·refine AW.ret ?_
   cases h; refine nz ?_; exact .same _
  refine bx h fun x3 h0 h1 h => ?_
  refine AW.ret ?_
  cases h; refine nz ?_; exact .same _
 refine AW.ret ?_
 cases h; refine nz ?_; exact .same _
/-! ### isochrone/num.Valid -/
def num_Valid (K : Nat) (p0 : RatA) (p1 : Int) : Option Bool := ((
  ((
   (num_valid K p0.num p1).bind fun r5 =>
   if (!r5) then
    some true
   else
    (num_valid K p0.den p1).bind fun r8 =>
    if (!r8) then
     some true
    else
     some ((p0.den.length : Int) == (0 : Int))) : Option Bool).bind (fun v3_0 =>
  if v3_0 then
   outM (
    some false)
  else
   some (.go ()))) : Option (Out Unit _)).bind (Out.fin fun _ =>
 if ((p0.num.length : Int) == (0 : Int)) then
  if (!p0.neg) then
   if ((p0.den.length : Int) == (1 : Int)) then
    (idx p0.den (0 : Int)).bind fun x15 =>
    some (x15 == (1 : Int))
   else
    some false
  else
   some false
 else
  ((
   ((
    if ((p0.den.length : Int) == (1 : Int)) then
     (idx p0.den (0 : Int)).bind fun x22 =>
     some (x22 == (1 : Int))
    else
     some false) : Option Bool).bind (fun v19_0 =>
   if v19_0 then
    outM (
     some true)
   else
    some (.go ()))) : Option (Out Unit _)).bind (Out.fin fun _ =>
  none))
set_option maxHeartbeats 4000000 in
theorem num_Valid_ok {K : Nat} {p0 : RatA} {p1 : Int} {r : Bool} (h : num_Valid K p0 p1 = some r) : Cn Tryz.prog 152 [aggV p0.enc, .d (.val (.int .i64 p1))] (.d (.val (.bool r))) := by
 refine Cn.oz Tryz.func152 Tryz.call152 Tryz.ntmps152 Tryz.results152 fun hfit => ?_
 unfold num_Valid at h
 refine AW.kr [] [0, 1] ?_
 refine AW.ks [0] [1, 2] ?_
 refine AW.jo h (fun _ => [(2, .ptr 0 3 0 0)]) (fun _ => [vE p0.enc]) (fun oJ2 h hJ2 => ?_) fun ⟨⟩ h => ?_
 ·refine AW.jn h (fun v3_0 => [(2, .ptr 0 3 0 0), (23, vB v3_0)]) (fun v3_0 => [vE p0.enc]) (fun oJ4 h => ?_) fun v3_0 h => ?_
  ·refine AW.rp ?_
   refine cm h num_valid_ok fun r5 hx6 h => ?_
   refine sK h (fun hb7 h => ?_) fun hb7 h => ?_
   ·exact ja [0] h
   refine cm h num_valid_ok fun r8 hx9 h => ?_
   refine sK h (fun hb10 h => ?_) fun hb10 h => ?_
   ·exact ja [0] h
   exact ja [0] h
  refine AW.tk h (fun hb11 h => ?_) fun hb11 h => ?_
  ·refine AW.ro ?_
   refine AW.ret ?_
   have h := up h hJ2
   cases h; refine nz ?_; exact .same _
  exact jo [0] h
 refine AW.one ?_
 refine AW.ro ?_
 refine AW.ks [0] [2, 27] ?_
 refine AW.tk h (fun hb12 h => ?_) fun hb12 h => ?_
 ·refine AW.ro ?_
  refine sK h (fun hb13 h => ?_) fun hb13 h => ?_
  ·refine sK h (fun hb14 h => ?_) fun hb14 h => ?_
   ·refine bx h fun x15 h0 h1 h => ?_
    refine AW.ret ?_
    cases h; refine nz ?_; exact .same _
   refine AW.ret ?_
   cases h; refine nz ?_; exact .same _
  refine AW.ret ?_
  cases h; refine nz ?_; exact .same _
 refine AW.ks [0] [2] ?_
 refine AW.jo h (fun _ => [(2, .ptr 0 3 0 0)]) (fun _ => [vE p0.enc]) (fun oJ18 h hJ18 => ?_) fun ⟨⟩ h => ?_
 ·refine AW.jn h (fun v19_0 => [(2, .ptr 0 3 0 0), (54, vB v19_0)]) (fun v19_0 => [vE p0.enc]) (fun oJ20 h => ?_) fun v19_0 h => ?_
  ·refine AW.rp ?_
   refine sK h (fun hb21 h => ?_) fun hb21 h => ?_
   ·refine bx h fun x22 h0 h1 h => ?_
    exact ja [0] h
   exact ja [0] h
  refine AW.tk h (fun hb24 h => ?_) fun hb24 h => ?_
  ·refine AW.ro ?_
   refine AW.ret ?_
   have h := up h hJ18
   cases h; refine nz ?_; exact .same _
  exact jo [0] h
 refine AW.ro ?_
 cases h
/-! ### isochrone/rat.Valid -/
def rat_Valid (K : Nat) (p0 : RatA) : Option Bool := (num_Valid K p0 (4096 : Int)).bind fun r1 =>
 some r1
set_option maxHeartbeats 4000000 in
theorem rat_Valid_ok {K : Nat} {p0 : RatA} {r : Bool} (h : rat_Valid K p0 = some r) : Cn Tryz.prog 129 [aggV p0.enc] (.d (.val (.bool r))) := by
 refine Cn.oz Tryz.func129 Tryz.call129 Tryz.ntmps129 Tryz.results129 fun hfit => ?_
 unfold rat_Valid at h
 refine AW.kr [] [0] ?_
 refine AW.kr [0] [1] ?_
 refine cm h num_Valid_ok fun r1 hx2 h => ?_
 refine AW.ret ?_
 cases h; refine nz ?_; exact .same _
/-! ### isochrone/tree.natural -/
def tree_natural (K : Nat) (p0 : RatA) : Option Bool := if (!p0.neg) then
  if ((p0.den.length : Int) == (1 : Int)) then
   (idx p0.den (0 : Int)).bind fun x3 =>
   if (x3 == (1 : Int)) then
    if (decide ((p0.num.length : Int) ≤ (20 : Int))) then
     (rat_Valid K p0).bind fun r7 =>
     some r7
    else
     some false
   else
    some false
  else
   some false
 else
  some false
set_option maxHeartbeats 4000000 in
theorem tree_natural_ok {K : Nat} {p0 : RatA} {r : Bool} (h : tree_natural K p0 = some r) : Cn Tryz.prog 82 [aggV p0.enc] (.d (.val (.bool r))) := by
 refine Cn.oz Tryz.func82 Tryz.call82 Tryz.ntmps82 Tryz.results82 fun hfit => ?_
 unfold tree_natural at h
 refine AW.kr [] [0] ?_
 refine AW.kr [0] [1] ?_
 refine sK h (fun hb1 h => ?_) fun hb1 h => ?_
 ·refine sK h (fun hb2 h => ?_) fun hb2 h => ?_
  ·refine bx h fun x3 h0 h1 h => ?_
   refine sK h (fun hb5 h => ?_) fun hb5 h => ?_
   ·refine sK h (fun hb6 h => ?_) fun hb6 h => ?_
    ·refine cm h rat_Valid_ok fun r7 hx8 h => ?_
     refine AW.ret ?_
     cases h; refine nz ?_; exact .same _
    refine AW.ret ?_
    cases h; refine nz ?_; exact .same _
   refine AW.ret ?_
   cases h; refine nz ?_; exact .same _
  refine AW.ret ?_
  cases h; refine nz ?_; exact .same _
 refine AW.ret ?_
 cases h; refine nz ?_; exact .same _
/-! ### isochrone/tree.shape -/
def tree_shape (K : Nat) (p0 : Int) : Option (Bool × (Option (List Int))) := ((
  if (p0 == (1 : Int)) then
   some (p0 == (1 : Int))
  else
   if (p0 == (13 : Int)) then
    some (p0 == (13 : Int))
   else
    if (p0 == (20 : Int)) then
     some (p0 == (20 : Int))
    else
     some (p0 == (21 : Int))) : Option Bool).bind (fun v1_0 =>
 if v1_0 then
  some (false, none)
 else
  ((
   if (p0 == (2 : Int)) then
    some (p0 == (2 : Int))
   else
    if (p0 == (3 : Int)) then
     some (p0 == (3 : Int))
    else
     if (p0 == (11 : Int)) then
      some (p0 == (11 : Int))
     else
      if (p0 == (38 : Int)) then
       some (p0 == (38 : Int))
      else
       if (p0 == (52 : Int)) then
        some (p0 == (52 : Int))
       else
        if (p0 == (56 : Int)) then
         some (p0 == (56 : Int))
        else
         if (p0 == (61 : Int)) then
          some (p0 == (61 : Int))
         else
          some (p0 == (62 : Int))) : Option Bool).bind (fun v7_0 =>
  if v7_0 then
   some (true, none)
  else
   ((
    if (p0 == (4 : Int)) then
     some (p0 == (4 : Int))
    else
     if (p0 == (12 : Int)) then
      some (p0 == (12 : Int))
     else
      if (p0 == (53 : Int)) then
       some (p0 == (53 : Int))
      else
       if (p0 == (28 : Int)) then
        some (p0 == (28 : Int))
       else
        if (p0 == (39 : Int)) then
         some (p0 == (39 : Int))
        else
         if (p0 == (59 : Int)) then
          some (p0 == (59 : Int))
         else
          some (p0 == (60 : Int))) : Option Bool).bind (fun v17_0 =>
   if v17_0 then
    ((
     ((
      if (p0 == (4 : Int)) then
       some (p0 == (4 : Int))
      else
       some (p0 == (12 : Int))) : Option Bool).bind (fun v28_0 =>
     if v28_0 then
      outM (
       some (false, (some [(1 : Int)])))
     else
      ((
       if (p0 == (59 : Int)) then
        some (p0 == (59 : Int))
       else
        some (p0 == (60 : Int))) : Option Bool).bind (fun v32_0 =>
      if v32_0 then
       outM (
        some (false, (some [(3 : Int)])))
      else
       some (.go ())))) : Option (Out Unit _)).bind (Out.fin fun _ =>
    some (false, (some [(2 : Int)])))
   else
    ((
     if (p0 == (5 : Int)) then
      some (p0 == (5 : Int))
     else
      if (p0 == (6 : Int)) then
       some (p0 == (6 : Int))
      else
       if (p0 == (7 : Int)) then
        some (p0 == (7 : Int))
       else
        if (p0 == (8 : Int)) then
         some (p0 == (8 : Int))
        else
         if (p0 == (9 : Int)) then
          some (p0 == (9 : Int))
         else
          if (p0 == (22 : Int)) then
           some (p0 == (22 : Int))
          else
           if (p0 == (23 : Int)) then
            some (p0 == (23 : Int))
           else
            if (p0 == (24 : Int)) then
             some (p0 == (24 : Int))
            else
             if (p0 == (25 : Int)) then
              some (p0 == (25 : Int))
             else
              if (p0 == (26 : Int)) then
               some (p0 == (26 : Int))
              else
               some (p0 == (27 : Int))) : Option Bool).bind (fun v36_0 =>
    if v36_0 then
     some (false, (some [(1 : Int), (1 : Int)]))
    else
     ((
      if (p0 == (29 : Int)) then
       some (p0 == (29 : Int))
      else
       if (p0 == (30 : Int)) then
        some (p0 == (30 : Int))
       else
        if (p0 == (31 : Int)) then
         some (p0 == (31 : Int))
        else
         some (p0 == (32 : Int))) : Option Bool).bind (fun v49_0 =>
     if v49_0 then
      some (false, (some [(2 : Int), (2 : Int)]))
     else
      ((
       if (p0 == (33 : Int)) then
        some (p0 == (33 : Int))
       else
        some (p0 == (34 : Int))) : Option Bool).bind (fun v55_0 =>
      if v55_0 then
       some (true, (some [(2 : Int)]))
      else
       ((
        if (p0 == (35 : Int)) then
         some (p0 == (35 : Int))
        else
         some (p0 == (36 : Int))) : Option Bool).bind (fun v59_0 =>
       if v59_0 then
        some (false, (some [(3 : Int), (2 : Int)]))
       else
        ((
         if (p0 == (50 : Int)) then
          some (p0 == (50 : Int))
         else
          if (p0 == (51 : Int)) then
           some (p0 == (51 : Int))
          else
           some (p0 == (55 : Int))) : Option Bool).bind (fun v63_0 =>
        if v63_0 then
         some (true, (some [(1 : Int)]))
        else
         ((
          if (p0 == (57 : Int)) then
           some (p0 == (57 : Int))
          else
           some (p0 == (58 : Int))) : Option Bool).bind (fun v68_0 =>
         if v68_0 then
          some (false, (some [(3 : Int), (3 : Int)]))
         else
          some (false, none))))))))))
set_option maxHeartbeats 4000000 in
theorem tree_shape_ok {K : Nat} {p0 : Int} {r : Bool × (Option (List Int))} (h : tree_shape K p0 = some r) : Cn Tryz.prog 83 [.d (.val (.int .i64 p0))] (.tup [.d (.val (.bool r.1)), nilV i64V r.2]) := by
 refine Cn.oz Tryz.func83 Tryz.call83 Tryz.ntmps83 Tryz.results83 fun hfit => ?_
 unfold tree_shape at h
 refine AW.kr [] [0] ?_
 refine AW.ks [] [0] ?_
 refine AW.one ?_
 refine AW.ro ?_
 refine AW.ks [] [0, 4] ?_
 refine AW.block ?_
 refine AW.jn h (fun v1_0 => [(0, vI p0), (4, vI p0), (5, vB v1_0)]) (fun v1_0 => []) (fun oJ2 h => ?_) fun v1_0 h => ?_
 ·refine AW.ro ?_
  refine AW.ks [] [0, 4, 5] ?_
  refine AW.tt h (fun hb3 h => ?_) fun hb3 h => ?_
  ·refine AW.sk ?_
   exact ja [] h
  refine AW.ro ?_
  refine AW.ks [] [0, 4, 5] ?_
  refine AW.tt h (fun hb4 h => ?_) fun hb4 h => ?_
  ·refine AW.sk ?_
   exact ja [] h
  refine AW.ro ?_
  refine AW.ks [] [0, 4, 5] ?_
  refine AW.tt h (fun hb5 h => ?_) fun hb5 h => ?_
  ·refine AW.sk ?_
   exact ja [] h
  refine AW.rp ?_
  exact ja [] h
 refine AW.tt h (fun hb6 h => ?_) fun hb6 h => ?_
 ·refine AW.ro ?_
  refine AW.ret ?_
  cases h; refine nz ?_; exact .same _
 refine AW.jn h (fun v7_0 => [(0, vI p0), (4, vI p0), (10, vB v7_0)]) (fun v7_0 => []) (fun oJ8 h => ?_) fun v7_0 h => ?_
 ·refine AW.ro ?_
  refine AW.ks [] [0, 4, 10] ?_
  refine AW.tt h (fun hb9 h => ?_) fun hb9 h => ?_
  ·refine AW.sk ?_
   exact ja [] h
  refine AW.ro ?_
  refine AW.ks [] [0, 4, 10] ?_
  refine AW.tt h (fun hb10 h => ?_) fun hb10 h => ?_
  ·refine AW.sk ?_
   exact ja [] h
  refine AW.ro ?_
  refine AW.ks [] [0, 4, 10] ?_
  refine AW.tt h (fun hb11 h => ?_) fun hb11 h => ?_
  ·refine AW.sk ?_
   exact ja [] h
  refine AW.ro ?_
  refine AW.ks [] [0, 4, 10] ?_
  refine AW.tt h (fun hb12 h => ?_) fun hb12 h => ?_
  ·refine AW.sk ?_
   exact ja [] h
  refine AW.ro ?_
  refine AW.ks [] [0, 4, 10] ?_
  refine AW.tt h (fun hb13 h => ?_) fun hb13 h => ?_
  ·refine AW.sk ?_
   exact ja [] h
  refine AW.ro ?_
  refine AW.ks [] [0, 4, 10] ?_
  refine AW.tt h (fun hb14 h => ?_) fun hb14 h => ?_
  ·refine AW.sk ?_
   exact ja [] h
  refine AW.ro ?_
  refine AW.ks [] [0, 4, 10] ?_
  refine AW.tt h (fun hb15 h => ?_) fun hb15 h => ?_
  ·refine AW.sk ?_
   exact ja [] h
  refine AW.rp ?_
  exact ja [] h
 refine AW.tt h (fun hb16 h => ?_) fun hb16 h => ?_
 ·refine AW.ro ?_
  refine AW.ret ?_
  cases h; refine nz ?_; exact .same _
 refine AW.jn h (fun v17_0 => [(0, vI p0), (4, vI p0), (19, vB v17_0)]) (fun v17_0 => []) (fun oJ18 h => ?_) fun v17_0 h => ?_
 ·refine AW.ro ?_
  refine AW.ks [] [0, 4, 19] ?_
  refine AW.tt h (fun hb19 h => ?_) fun hb19 h => ?_
  ·refine AW.sk ?_
   exact ja [] h
  refine AW.ro ?_
  refine AW.ks [] [0, 4, 19] ?_
  refine AW.tt h (fun hb20 h => ?_) fun hb20 h => ?_
  ·refine AW.sk ?_
   exact ja [] h
  refine AW.ro ?_
  refine AW.ks [] [0, 4, 19] ?_
  refine AW.tt h (fun hb21 h => ?_) fun hb21 h => ?_
  ·refine AW.sk ?_
   exact ja [] h
  refine AW.ro ?_
  refine AW.ks [] [0, 4, 19] ?_
  refine AW.tt h (fun hb22 h => ?_) fun hb22 h => ?_
  ·refine AW.sk ?_
   exact ja [] h
  refine AW.ro ?_
  refine AW.ks [] [0, 4, 19] ?_
  refine AW.tt h (fun hb23 h => ?_) fun hb23 h => ?_
  ·refine AW.sk ?_
   exact ja [] h
  refine AW.ro ?_
  refine AW.ks [] [0, 4, 19] ?_
  refine AW.tt h (fun hb24 h => ?_) fun hb24 h => ?_
  ·refine AW.sk ?_
   exact ja [] h
  refine AW.rp ?_
  exact ja [] h
 refine AW.tt h (fun hb25 h => ?_) fun hb25 h => ?_
 ·refine AW.jo h (fun _ => []) (fun _ => []) (fun oJ27 h hJ27 => ?_) fun ⟨⟩ h => ?_
  ·refine AW.ro ?_
   refine AW.ks [] [27] ?_
   refine AW.block ?_
   refine AW.jn h (fun v28_0 => [(27, vI p0), (28, vB v28_0)]) (fun v28_0 => []) (fun oJ29 h => ?_) fun v28_0 h => ?_
   ·refine AW.ro ?_
    refine AW.ks [] [27, 28] ?_
    refine AW.tt h (fun hb30 h => ?_) fun hb30 h => ?_
    ·refine AW.sk ?_
     exact ja [] h
    refine AW.rp ?_
    exact ja [] h
   refine AW.tt h (fun hb31 h => ?_) fun hb31 h => ?_
   ·refine AW.ro ?_
    refine AW.ret ?_
    have h := up h hJ27
    cases h; refine nz ?_; exact .same _
   refine AW.jn h (fun v32_0 => [(32, vB v32_0)]) (fun v32_0 => []) (fun oJ33 h => ?_) fun v32_0 h => ?_
   ·refine AW.ro ?_
    refine AW.ks [] [27, 32] ?_
    refine AW.tt h (fun hb34 h => ?_) fun hb34 h => ?_
    ·refine AW.sk ?_
     exact ja [] h
    refine AW.rp ?_
    exact ja [] h
   refine AW.tk h (fun hb35 h => ?_) fun hb35 h => ?_
   ·refine AW.ro ?_
    refine AW.ret ?_
    have h := up h hJ27
    cases h; refine nz ?_; exact .same _
   exact jo [] h
  refine AW.ro ?_
  refine AW.ret ?_
  cases h; refine nz ?_; exact .same _
 refine AW.jn h (fun v36_0 => [(4, vI p0), (37, vB v36_0)]) (fun v36_0 => []) (fun oJ37 h => ?_) fun v36_0 h => ?_
 ·refine AW.ro ?_
  refine AW.ks [] [4, 37] ?_
  refine AW.tt h (fun hb38 h => ?_) fun hb38 h => ?_
  ·refine AW.sk ?_
   exact ja [] h
  refine AW.ro ?_
  refine AW.ks [] [4, 37] ?_
  refine AW.tt h (fun hb39 h => ?_) fun hb39 h => ?_
  ·refine AW.sk ?_
   exact ja [] h
  refine AW.ro ?_
  refine AW.ks [] [4, 37] ?_
  refine AW.tt h (fun hb40 h => ?_) fun hb40 h => ?_
  ·refine AW.sk ?_
   exact ja [] h
  refine AW.ro ?_
  refine AW.ks [] [4, 37] ?_
  refine AW.tt h (fun hb41 h => ?_) fun hb41 h => ?_
  ·refine AW.sk ?_
   exact ja [] h
  refine AW.ro ?_
  refine AW.ks [] [4, 37] ?_
  refine AW.tt h (fun hb42 h => ?_) fun hb42 h => ?_
  ·refine AW.sk ?_
   exact ja [] h
  refine AW.ro ?_
  refine AW.ks [] [4, 37] ?_
  refine AW.tt h (fun hb43 h => ?_) fun hb43 h => ?_
  ·refine AW.sk ?_
   exact ja [] h
  refine AW.ro ?_
  refine AW.ks [] [4, 37] ?_
  refine AW.tt h (fun hb44 h => ?_) fun hb44 h => ?_
  ·refine AW.sk ?_
   exact ja [] h
  refine AW.ro ?_
  refine AW.ks [] [4, 37] ?_
  refine AW.tt h (fun hb45 h => ?_) fun hb45 h => ?_
  ·refine AW.sk ?_
   exact ja [] h
  refine AW.ro ?_
  refine AW.ks [] [4, 37] ?_
  refine AW.tt h (fun hb46 h => ?_) fun hb46 h => ?_
  ·refine AW.sk ?_
   exact ja [] h
  refine AW.ro ?_
  refine AW.ks [] [4, 37] ?_
  refine AW.tt h (fun hb47 h => ?_) fun hb47 h => ?_
  ·refine AW.sk ?_
   exact ja [] h
  refine AW.rp ?_
  exact ja [] h
 refine AW.tt h (fun hb48 h => ?_) fun hb48 h => ?_
 ·refine AW.ro ?_
  refine AW.ret ?_
  cases h; refine nz ?_; exact .same _
 refine AW.jn h (fun v49_0 => [(4, vI p0), (50, vB v49_0)]) (fun v49_0 => []) (fun oJ50 h => ?_) fun v49_0 h => ?_
 ·refine AW.ro ?_
  refine AW.ks [] [4, 50] ?_
  refine AW.tt h (fun hb51 h => ?_) fun hb51 h => ?_
  ·refine AW.sk ?_
   exact ja [] h
  refine AW.ro ?_
  refine AW.ks [] [4, 50] ?_
  refine AW.tt h (fun hb52 h => ?_) fun hb52 h => ?_
  ·refine AW.sk ?_
   exact ja [] h
  refine AW.ro ?_
  refine AW.ks [] [4, 50] ?_
  refine AW.tt h (fun hb53 h => ?_) fun hb53 h => ?_
  ·refine AW.sk ?_
   exact ja [] h
  refine AW.rp ?_
  exact ja [] h
 refine AW.tt h (fun hb54 h => ?_) fun hb54 h => ?_
 ·refine AW.ro ?_
  refine AW.ret ?_
  cases h; refine nz ?_; exact .same _
 refine AW.jn h (fun v55_0 => [(4, vI p0), (56, vB v55_0)]) (fun v55_0 => []) (fun oJ56 h => ?_) fun v55_0 h => ?_
 ·refine AW.ro ?_
  refine AW.ks [] [4, 56] ?_
  refine AW.tt h (fun hb57 h => ?_) fun hb57 h => ?_
  ·refine AW.sk ?_
   exact ja [] h
  refine AW.rp ?_
  exact ja [] h
 refine AW.tt h (fun hb58 h => ?_) fun hb58 h => ?_
 ·refine AW.ro ?_
  refine AW.ret ?_
  cases h; refine nz ?_; exact .same _
 refine AW.jn h (fun v59_0 => [(4, vI p0), (60, vB v59_0)]) (fun v59_0 => []) (fun oJ60 h => ?_) fun v59_0 h => ?_
 ·refine AW.ro ?_
  refine AW.ks [] [4, 60] ?_
  refine AW.tt h (fun hb61 h => ?_) fun hb61 h => ?_
  ·refine AW.sk ?_
   exact ja [] h
  refine AW.rp ?_
  exact ja [] h
 refine AW.tt h (fun hb62 h => ?_) fun hb62 h => ?_
 ·refine AW.ro ?_
  refine AW.ret ?_
  cases h; refine nz ?_; exact .same _
 refine AW.jn h (fun v63_0 => [(4, vI p0), (64, vB v63_0)]) (fun v63_0 => []) (fun oJ64 h => ?_) fun v63_0 h => ?_
 ·refine AW.ro ?_
  refine AW.ks [] [4, 64] ?_
  refine AW.tt h (fun hb65 h => ?_) fun hb65 h => ?_
  ·refine AW.sk ?_
   exact ja [] h
  refine AW.ro ?_
  refine AW.ks [] [4, 64] ?_
  refine AW.tt h (fun hb66 h => ?_) fun hb66 h => ?_
  ·refine AW.sk ?_
   exact ja [] h
  refine AW.rp ?_
  exact ja [] h
 refine AW.tt h (fun hb67 h => ?_) fun hb67 h => ?_
 ·refine AW.ro ?_
  refine AW.ret ?_
  cases h; refine nz ?_; exact .same _
 refine AW.jn h (fun v68_0 => [(69, vB v68_0)]) (fun v68_0 => []) (fun oJ69 h => ?_) fun v68_0 h => ?_
 ·refine AW.ro ?_
  refine AW.ks [] [4, 69] ?_
  refine AW.tt h (fun hb70 h => ?_) fun hb70 h => ?_
  ·refine AW.sk ?_
   exact ja [] h
  refine AW.rp ?_
  exact ja [] h
 refine AW.tk h (fun hb71 h => ?_) fun hb71 h => ?_
 ·refine AW.ro ?_
  refine AW.ret ?_
  cases h; refine nz ?_; exact .same _
 refine AW.kr [] [] ?_
 refine AW.ret ?_
 cases h; refine nz ?_; exact .same _
structure Tree_placeA where
 inDiff : Bool
 inFDiff : Bool
 inFlow : Bool
def Tree_placeA.enc (x : Tree_placeA) : List D := [.val (.bool x.inDiff), .val (.bool x.inFDiff), .val (.bool x.inFlow)]
theorem Tree_placeA.enc_eta (x : Tree_placeA) : x.enc = [.val (.bool x.inDiff), .val (.bool x.inFDiff), .val (.bool x.inFlow)] := rfl
attribute [go_sem] Tree_placeA.enc_eta
/-! ### isochrone/tree.formed -/
def tree_formed_body (K : Nat) (self46 : (NodeA × Tree_placeA) → Option Bool) (p0 : NodeA) (p1 : Tree_placeA) : Option Bool := ((
  if (p0.op == (1 : Int)) then
   (tree_natural K p0.num).bind fun r4 =>
   if (!r4) then
    outM (
     some false)
   else
    some (.go ())
  else
   ((
    if p0.num.neg then
     some true
    else
     if (decide ((0 : Int) < (p0.num.num.length : Int))) then
      some true
     else
      some (decide ((0 : Int) < (p0.num.den.length : Int)))) : Option Bool).bind (fun v7_0 =>
   if v7_0 then
    outM (
     some false)
   else
    some (.go ()))) : Option (Out Unit _)).bind (Out.fin fun _ =>
 (tree_shape K p0.op).bind fun r12 =>
 ((
  ((
   if r12.1 then
    (tree_Name K p0.name).bind fun r19 =>
    if (!r19) then
     some true
    else
     some false
   else
    if (!(p0.name.toList == (⟨#[]⟩ : ByteArray).toList)) then
     if (p0.op != (10 : Int)) then
      some (p0.op != (37 : Int))
     else
      some false
    else
     some false) : Option Bool).bind (fun v16_0 =>
  if v16_0 then
   outM (
    some false)
  else
   some (.go ()))) : Option (Out Unit _)).bind (Out.fin fun _ =>
 ((
  ((
   if (p0.op == (10 : Int)) then
    some (p0.op == (10 : Int))
   else
    some (p0.op == (37 : Int))) : Option Bool).bind (fun v27_0 =>
  if v27_0 then
   ((
    ((
     (tree_Name K p0.name).bind fun r35 =>
     if (!r35) then
      some true
     else
      some (decide ((1 : Int) < (p0.kids.length : Int)))) : Option Bool).bind (fun v33_0 =>
    if v33_0 then
     outM (
      outM (
       some false))
    else
     some (.go ()))) : Option (Out Unit _)).bind (Out.fin fun _ =>
   (must r12.2.isNone).bind fun _ =>
   ((iter (S := Int × (List Int)) (R := (List Int)) K (fun again (i44_0, i44_1) =>
    if (decide (i44_0 < (p0.kids.length : Int))) then
     (appO 8 i44_1 [(1 : Int)]).bind fun l49 =>
     again (IntKind.wrap .i64 (i44_0 + (1 : Int)), l49)
    else
     some i44_1) ((0 : Int), [])) : Option (List Int)).bind (fun e45_0 =>
   some (.go (e45_0, p1))))
  else
   if (p0.op == (54 : Int)) then
    ((
     ((
      if (!(p0.name.toList == (⟨#[]⟩ : ByteArray).toList)) then
       some true
      else
       some (decide ((p0.kids.length : Int) < (2 : Int)))) : Option Bool).bind (fun v54_0 =>
     if v54_0 then
      outM (
       outM (
        some false))
     else
      some (.go ()))) : Option (Out Unit _)).bind (Out.fin fun _ =>
    (must r12.2.isNone).bind fun _ =>
    ((iter (S := Int × (List Int)) (R := Out (List Int) _) K (fun again (i63_0, i63_1) =>
     if (decide (i63_0 < (IntKind.wrap .i64 ((p0.kids.length : Int) - (1 : Int))))) then
      ((
       (idx p0.kids i63_0).bind fun x70 =>
       ((
        ((
         if (x70.op != (55 : Int)) then
          if (x70.op != (56 : Int)) then
           some true
          else
           some (i63_0 != (IntKind.wrap .i64 ((IntKind.wrap .i64 ((p0.kids.length : Int) - (1 : Int))) - (1 : Int))))
         else
          some false) : Option Bool).bind (fun v74_0 =>
        if v74_0 then
         outM (
          outM (
           outM (
            outM (
             some false))))
        else
         some (.go ()))) : Option (Out Unit _)).bind (Out.fin fun _ =>
       (cutL p0.kids none (some i63_0)).bind fun s79 =>
       ((iter (S := Int) (R := Out Unit _) K (fun again i81_0 =>
        if (decide (i81_0 < (s79.length : Int))) then
         ((
          (idx s79 i81_0).bind fun x88 =>
          ((
           if (x70.op == (55 : Int)) then
            some (x88.name.toList == x70.name.toList)
           else
            some false) : Option Bool).bind (fun v90_0 =>
          if v90_0 then
           outM (
            outM (
             outM (
              outM (
               outM (
                some false)))))
          else
           some (.go ()))) : Option (Out Unit _)).bind (Out.fin fun _ =>
         again (IntKind.wrap .i64 (i81_0 + (1 : Int))))
        else
         some (.go ())) (0 : Int)) : Option (Out Unit _)).bind (Out.fin fun _ =>
       (appO 8 i63_1 [(4 : Int)]).bind fun l94 =>
       some (.go l94)))) : Option (Out (List Int) _)).bind (Out.fin fun v68_0 =>
      again (IntKind.wrap .i64 (i63_0 + (1 : Int)), v68_0))
     else
      some (.go i63_1)) ((0 : Int), [])) : Option (Out (List Int) _)).bind (Out.fin fun e64_0 =>
    (appO 8 e64_0 [(2 : Int)]).bind fun l96 =>
    some (.go (l96, (Tree_placeA.mk p1.inDiff p1.inFDiff true)))))
   else
    if (p0.op == (3 : Int)) then
     ((
      if p1.inDiff then
       some true
      else
       if p1.inFDiff then
        some true
       else
        some p1.inFlow) : Option Bool).bind (fun v99_0 =>
     if v99_0 then
      outM (
       some false)
     else
      some (.go ((r12.2.getD []), p1)))
    else
     if (p0.op == (12 : Int)) then
      ((
       ((
        if p1.inDiff then
         some true
        else
         some p1.inFlow) : Option Bool).bind (fun v107_0 =>
       if v107_0 then
        outM (
         outM (
          some false))
       else
        some (.go ()))) : Option (Out Unit _)).bind (Out.fin fun _ =>
      some (.go ((r12.2.getD []), (Tree_placeA.mk true p1.inFDiff p1.inFlow))))
     else
      if (p0.op == (39 : Int)) then
       ((
        ((
         if p1.inFlow then
          some true
         else
          if ((p0.kids.length : Int) != (1 : Int)) then
           some true
          else
           (idx p0.kids (0 : Int)).bind fun x118 =>
           (tree_differentiable K x118).bind fun r120 =>
           some (!r120)) : Option Bool).bind (fun v114_0 =>
        if v114_0 then
         outM (
          outM (
           some false))
        else
         some (.go ()))) : Option (Out Unit _)).bind (Out.fin fun _ =>
       some (.go ((r12.2.getD []), (Tree_placeA.mk p1.inDiff true p1.inFlow))))
      else
       some (.go ((r12.2.getD []), p1)))) : Option (Out ((List Int) × Tree_placeA) _)).bind (Out.fin fun (v25_0, v25_1) =>
 if ((p0.kids.length : Int) != (v25_0.length : Int)) then
  some false
 else
  ((iter (S := Int) (R := Out Unit _) K (fun again i124_0 =>
   if (decide (i124_0 < (p0.kids.length : Int))) then
    ((
     (idx p0.kids i124_0).bind fun x131 =>
     ((
      (tree_Sort K x131.op).bind fun r135 =>
      (idx v25_0 i124_0).bind fun x137 =>
      if (r135 != x137) then
       some true
      else
       (self46 (x131, v25_1)).bind fun r140 =>
       some (!r140)) : Option Bool).bind (fun v133_0 =>
     if v133_0 then
      outM (
       outM (
        some false))
     else
      some (.go ()))) : Option (Out Unit _)).bind (Out.fin fun _ =>
    again (IntKind.wrap .i64 (i124_0 + (1 : Int))))
   else
    some (.go ())) (0 : Int)) : Option (Out Unit _)).bind (Out.fin fun _ =>
  if (p0.op == (8 : Int)) then
   (idx p0.kids (1 : Int)).bind fun x144 =>
   if (x144.op == (1 : Int)) then
    some (decide ((0 : Int) < (x144.num.num.length : Int)))
   else
    some false
  else
   if (p0.op == (9 : Int)) then
    (idx p0.kids (1 : Int)).bind fun x148 =>
    if (x148.op == (1 : Int)) then
     if ((x148.num.num.length : Int) == (0 : Int)) then
      some true
     else
      if ((x148.num.num.length : Int) == (1 : Int)) then
       (idx x148.num.num (0 : Int)).bind fun x153 =>
       some (decide (x153 ≤ (20 : Int)))
      else
       some false
    else
     some false
   else
    some true))))
set_option maxHeartbeats 4000000 in
theorem tree_formed_step (K : Nat) (self46 : (NodeA × Tree_placeA) → Option Bool) (hself46 : ∀ (q : NodeA × Tree_placeA) (r : Bool), self46 q = some r → Cn Tryz.prog 46 [aggV q.1.enc, aggV q.2.enc] (.d (.val (.bool r)))) (p0 : NodeA) (p1 : Tree_placeA) (r : Bool) (h : tree_formed_body K self46 p0 p1 = some r) : Cn Tryz.prog 46 [aggV p0.enc, aggV p1.enc] (.d (.val (.bool r))) := by
 refine Cn.oz Tryz.func46 Tryz.call46 Tryz.ntmps46 Tryz.results46 fun hfit => ?_
 unfold tree_formed_body at h
 refine AW.kr [] [0, 1] ?_
 refine AW.ks [0, 1] [2, 3] ?_
 refine AW.jo h (fun _ => [(2, .ptr 0 6 0 0), (3, .ptr 1 3 0 0)]) (fun _ => [vE p0.enc, vE p1.enc]) (fun oJ2 h hJ2 => ?_) fun ⟨⟩ h => ?_
 ·refine AW.ro ?_
  refine AW.ks [0, 1] [2, 3, 17] ?_
  refine AW.tt h (fun hb3 h => ?_) fun hb3 h => ?_
  ·refine AW.ro ?_
   refine cm h tree_natural_ok fun r4 hx5 h => ?_
   refine AW.ks [0, 1] [2, 3, 21] ?_
   refine AW.tk h (fun hb6 h => ?_) fun hb6 h => ?_
   ·refine AW.ro ?_
    refine AW.ret ?_
    have h := up h hJ2
    cases h; refine nz ?_; exact .same _
   exact jo [0, 1] h
  refine AW.jn h (fun v7_0 => [(2, .ptr 0 6 0 0), (3, .ptr 1 3 0 0), (38, vB v7_0)]) (fun v7_0 => [vE p0.enc, vE p1.enc]) (fun oJ8 h => ?_) fun v7_0 h => ?_
  ·refine AW.rp ?_
   refine sK h (fun hb9 h => ?_) fun hb9 h => ?_
   ·exact ja [0, 1] h
   refine sK h (fun hb10 h => ?_) fun hb10 h => ?_
   ·exact ja [0, 1] h
   exact ja [0, 1] h
  refine AW.tk h (fun hb11 h => ?_) fun hb11 h => ?_
  ·refine AW.ro ?_
   refine AW.ret ?_
   have h := up h hJ2
   cases h; refine nz ?_; exact .same _
  exact jo [0, 1] h
 refine AW.ro ?_
 refine cm h tree_shape_ok fun r12 hx13 h => ?_
 refine AW.ks [0, 1] [2, 3, 5, 6] ?_
 refine AW.jo h (fun _ => [(2, .ptr 0 6 0 0), (3, .ptr 1 3 0 0), (6, nilV i64V r12.2)]) (fun _ => [vE p0.enc, vE p1.enc]) (fun oJ15 h hJ15 => ?_) fun ⟨⟩ h => ?_
 ·refine AW.jn h (fun v16_0 => [(2, .ptr 0 6 0 0), (3, .ptr 1 3 0 0), (6, nilV i64V r12.2), (70, vB v16_0)]) (fun v16_0 => [vE p0.enc, vE p1.enc]) (fun oJ17 h => ?_) fun v16_0 h => ?_
  ·refine AW.rp ?_
   refine sK h (fun hb18 h => ?_) fun hb18 h => ?_
   ·refine cm h tree_Name_ok fun r19 hx20 h => ?_
    refine sK h (fun hb21 h => ?_) fun hb21 h => ?_
    ·exact ja [0, 1] h
    exact ja [0, 1] h
   refine sK h (fun hb22 h => ?_) fun hb22 h => ?_
   ·refine sK h (fun hb23 h => ?_) fun hb23 h => ?_
    ·exact ja [0, 1] h
    exact ja [0, 1] h
   exact ja [0, 1] h
  refine AW.tk h (fun hb24 h => ?_) fun hb24 h => ?_
  ·refine AW.ro ?_
   refine AW.ret ?_
   have h := up h hJ15
   cases h; refine nz ?_; exact .same _
  exact jo [0, 1] h
 refine AW.jo h (fun (v25_0, v25_1) => [(2, .ptr 0 6 0 0), (3, .ptr 1 3 0 0), (6, vL i64V v25_0)]) (fun (v25_0, v25_1) => [vE p0.enc, vE v25_1.enc]) (fun oJ26 h hJ26 => ?_) fun ⟨v25_0, v25_1⟩ h => ?_
 ·refine AW.ro ?_
  refine AW.ks [0, 1] [2, 3, 6, 72] ?_
  refine AW.block ?_
  refine AW.jn h (fun v27_0 => [(2, .ptr 0 6 0 0), (3, .ptr 1 3 0 0), (6, nilV i64V r12.2), (72, vI p0.op), (73, vB v27_0)]) (fun v27_0 => [vE p0.enc, vE p1.enc]) (fun oJ28 h => ?_) fun v27_0 h => ?_
  ·refine AW.ro ?_
   refine AW.ks [0, 1] [2, 3, 6, 72, 73] ?_
   refine AW.tt h (fun hb29 h => ?_) fun hb29 h => ?_
   ·refine AW.sk ?_
    exact ja [0, 1] h
   refine AW.rp ?_
   exact ja [0, 1] h
  refine AW.tt h (fun hb30 h => ?_) fun hb30 h => ?_
  ·refine AW.jo h (fun _ => [(2, .ptr 0 6 0 0), (3, .ptr 1 3 0 0), (6, nilV i64V r12.2)]) (fun _ => [vE p0.enc, vE p1.enc]) (fun oJ32 h hJ32 => ?_) fun ⟨⟩ h => ?_
   ·refine AW.jn h (fun v33_0 => [(2, .ptr 0 6 0 0), (3, .ptr 1 3 0 0), (6, nilV i64V r12.2), (85, vB v33_0)]) (fun v33_0 => [vE p0.enc, vE p1.enc]) (fun oJ34 h => ?_) fun v33_0 h => ?_
    ·refine AW.rp ?_
     refine cm h tree_Name_ok fun r35 hx36 h => ?_
     refine sK h (fun hb37 h => ?_) fun hb37 h => ?_
     ·exact ja [0, 1] h
     exact ja [0, 1] h
    refine AW.tk h (fun hb38 h => ?_) fun hb38 h => ?_
    ·refine AW.ro ?_
     refine AW.ret ?_
     have h := up h hJ32
     have h := up h hJ26
     cases h; refine nz ?_; exact .same _
    exact jo [0, 1] h
   refine AW.ro ?_
   refine AW.ks [0, 1] [2, 3, 6, 88, 89] ?_
   apply bE h; intro _ hx43 h; have hx43 := must_none hx43
   refine AW.ks [0, 1] [2, 3, 6, 88, 89] ?_
   refine AW.lm h (fun e45_0 => [(2, .ptr 0 6 0 0), (3, .ptr 1 3 0 0), (6, accV 2 1 ((e45_0.map i64V).map (·.map .d)))]) (fun e45_0 => [vE p0.enc, vE p1.enc, accO 1 ((e45_0.map i64V).map (·.map .d))]) (fun (i44_0, i44_1) => [(2, .ptr 0 6 0 0), (3, .ptr 1 3 0 0), (6, accV 2 1 ((i44_1.map i64V).map (·.map .d))), (88, vI (p0.kids.length : Int)), (89, vI i44_0)]) (fun (i44_0, i44_1) => [vE p0.enc, vE p1.enc, accO 1 ((i44_1.map i64V).map (·.map .d))]) [0, 1, 1002] (fun oJ47 again ⟨i44_0, i44_1⟩ h => ?_) fun e45_0 h => ?_
   ·try dsimp only at h
    refine AW.ro ?_
    refine AW.ks [0, 1, 2] [2, 3, 6, 88, 89, 90] ?_
    refine AW.one ?_
    refine AW.tt h (fun hb48 h => ?_) fun hb48 h => ?_
    ·refine AW.sk ?_
     refine AW.ks [0, 1, 2] [2, 3, 6, 88, 89] ?_
     refine AW.one ?_
     refine AW.block ?_
     refine AW.rp ?_
     refine ag (f := i64V) h fun l49 hx50 h => ?_
     refine AW.ks [0, 1, 5] [2, 3, 6, 88, 89] ?_
     refine AW.rp ?_
     exact na [0, 1, 2] h
    refine AW.ex ?_
    exact ja [0, 1, 2] h
   refine JoinQ.mkS (e45_0, p1) [0, 1] [2] [(6, .d (slD i64V e45_0))] [] (Option.some.inj h).symm (by simp only [go_sem, reduceEqDiff, reduceAdd, reduceSub, reduceMul, reduceLeDiff, reduceLT, Nat.reduceBEq, reduceIte, sealL_cons, sealL_nil]; exact sealAcc (by simp only [go_sem, reduceEqDiff, reduceAdd, reduceSub, reduceMul, reduceLeDiff, reduceLT, Nat.reduceBEq, reduceIte])) (by simp only [go_sem, reduceEqDiff, reduceAdd, reduceSub, reduceMul, reduceLeDiff, reduceLT, Nat.reduceBEq, reduceIte, sealH_cons, sealH_nil]) (by simp only [go_sem, reduceEqDiff, reduceAdd, reduceSub, reduceMul, reduceLeDiff, reduceLT, Nat.reduceBEq, reduceIte])
  refine AW.ro ?_
  refine AW.ks [0, 1] [2, 3, 6, 72, 95] ?_
  refine AW.tt h (fun hb51 h => ?_) fun hb51 h => ?_
  ·refine AW.jo h (fun _ => [(2, .ptr 0 6 0 0), (3, .ptr 1 3 0 0), (6, nilV i64V r12.2)]) (fun _ => [vE p0.enc, vE p1.enc]) (fun oJ53 h hJ53 => ?_) fun ⟨⟩ h => ?_
   ·refine AW.jn h (fun v54_0 => [(2, .ptr 0 6 0 0), (3, .ptr 1 3 0 0), (6, nilV i64V r12.2), (105, vB v54_0)]) (fun v54_0 => [vE p0.enc, vE p1.enc]) (fun oJ55 h => ?_) fun v54_0 h => ?_
    ·refine AW.rp ?_
     refine sK h (fun hb56 h => ?_) fun hb56 h => ?_
     ·exact ja [0, 1] h
     exact ja [0, 1] h
    refine AW.tk h (fun hb57 h => ?_) fun hb57 h => ?_
    ·refine AW.ro ?_
     refine AW.ret ?_
     have h := up h hJ53
     have h := up h hJ26
     cases h; refine nz ?_; exact .same _
    exact jo [0, 1] h
   refine AW.ro ?_
   refine AW.ks [0, 1] [2, 3, 6, 7] ?_
   refine AW.one ?_
   refine AW.ro ?_
   refine AW.ks [0, 1] [2, 3, 6, 7, 8] ?_
   apply bE h; intro _ hx62 h; have hx62 := must_none hx62
   refine AW.ks [0, 1] [2, 3, 6, 7, 8] ?_
   refine AW.lp h (fun e64_0 => [(2, .ptr 0 6 0 0), (3, .ptr 1 3 0 0), (6, accV 2 1 ((e64_0.map i64V).map (·.map .d)))]) (fun e64_0 => [vE p0.enc, vE p1.enc, accO 1 ((e64_0.map i64V).map (·.map .d))]) (fun (i63_0, i63_1) => [(2, .ptr 0 6 0 0), (3, .ptr 1 3 0 0), (6, accV 2 1 ((i63_1.map i64V).map (·.map .d))), (7, vI (IntKind.wrap .i64 ((p0.kids.length : Int) - (1 : Int)))), (8, vI i63_0)]) (fun (i63_0, i63_1) => [vE p0.enc, vE p1.enc, accO 1 ((i63_1.map i64V).map (·.map .d))]) [0, 1, 1002] (fun oJ66 hJ66 again ⟨i63_0, i63_1⟩ h => ?_) fun e64_0 h => ?_
   ·try dsimp only at h
    refine AW.one ?_
    refine AW.ro ?_
    refine AW.ks [0, 1, 2] [2, 3, 6, 7, 8, 112] ?_
    refine AW.tt h (fun hb67 h => ?_) fun hb67 h => ?_
    ·refine AW.sk ?_
     refine AW.ks [0, 1, 2] [2, 3, 6, 7, 8] ?_
     refine AW.jo h (fun v68_0 => [(2, .ptr 0 6 0 0), (3, .ptr 1 3 0 0), (6, accV 2 1 ((v68_0.map i64V).map (·.map .d))), (7, vI (IntKind.wrap .i64 ((p0.kids.length : Int) - (1 : Int)))), (8, vI i63_0)]) (fun v68_0 => [vE p0.enc, vE p1.enc, accO 1 ((v68_0.map i64V).map (·.map .d))]) (fun oJ69 h hJ69 => ?_) fun v68_0 h => ?_
     ·refine AW.block ?_
      refine AW.ro ?_
      refine bx h fun x70 h0 h1 h => ?_
      refine AW.ks [0, 1, 2, 8] [2, 3, 6, 7, 8, 9] ?_
      refine AW.jo h (fun _ => [(2, .ptr 0 6 0 0), (3, .ptr 1 3 0 0), (6, accV 2 1 ((i63_1.map i64V).map (·.map .d))), (7, vI (IntKind.wrap .i64 ((p0.kids.length : Int) - (1 : Int)))), (8, vI i63_0), (9, .ptr 3 6 0 0)]) (fun _ => [vE p0.enc, vE p1.enc, accO 1 ((i63_1.map i64V).map (·.map .d)), vE x70.enc]) (fun oJ73 h hJ73 => ?_) fun ⟨⟩ h => ?_
      ·refine AW.jn h (fun v74_0 => [(2, .ptr 0 6 0 0), (3, .ptr 1 3 0 0), (6, accV 2 1 ((i63_1.map i64V).map (·.map .d))), (7, vI (IntKind.wrap .i64 ((p0.kids.length : Int) - (1 : Int)))), (8, vI i63_0), (9, .ptr 3 6 0 0), (133, vB v74_0)]) (fun v74_0 => [vE p0.enc, vE p1.enc, accO 1 ((i63_1.map i64V).map (·.map .d)), vE x70.enc]) (fun oJ75 h => ?_) fun v74_0 h => ?_
       ·refine AW.rp ?_
        refine sK h (fun hb76 h => ?_) fun hb76 h => ?_
        ·refine sK h (fun hb77 h => ?_) fun hb77 h => ?_
         ·exact ja [0, 1, 2, 3] h
         exact ja [0, 1, 2, 3] h
        exact ja [0, 1, 2, 3] h
       refine AW.tk h (fun hb78 h => ?_) fun hb78 h => ?_
       ·refine AW.ro ?_
        refine AW.ret ?_
        have h := up h hJ73
        have h := up h hJ69
        have h := up h hJ66
        have h := up h hJ26
        cases h; refine nz ?_; exact .same _
       exact jo [0, 1, 2, 3] h
      refine AW.one ?_
      refine AW.ro ?_
      refine bb h fun s79 hx80 h => ?_
      refine AW.ks [0, 1, 2, 3] [2, 3, 6, 7, 8, 9, 137, 138, 139] ?_
      refine AW.lp h (fun _ => [(2, .ptr 0 6 0 0), (3, .ptr 1 3 0 0), (6, accV 2 1 ((i63_1.map i64V).map (·.map .d))), (7, vI (IntKind.wrap .i64 ((p0.kids.length : Int) - (1 : Int)))), (8, vI i63_0)]) (fun _ => [vE p0.enc, vE p1.enc, accO 1 ((i63_1.map i64V).map (·.map .d))]) (fun i81_0 => [(2, .ptr 0 6 0 0), (3, .ptr 1 3 0 0), (6, accV 2 1 ((i63_1.map i64V).map (·.map .d))), (7, vI (IntKind.wrap .i64 ((p0.kids.length : Int) - (1 : Int)))), (8, vI i63_0), (9, .ptr 3 6 0 0), (137, vL NodeA.enc s79), (138, vI (s79.length : Int)), (139, vI i81_0)]) (fun i81_0 => [vE p0.enc, vE p1.enc, accO 1 ((i63_1.map i64V).map (·.map .d)), vE x70.enc]) [0, 1, 2, 3] (fun oJ84 hJ84 again i81_0 h => ?_) fun ⟨⟩ h => ?_
      ·refine AW.ro ?_
       refine AW.ks [0, 1, 2, 3] [2, 3, 6, 7, 8, 9, 137, 138, 139, 140] ?_
       refine AW.one ?_
       refine AW.tt h (fun hb85 h => ?_) fun hb85 h => ?_
       ·refine AW.sk ?_
        refine AW.ks [0, 1, 2, 3] [2, 3, 6, 7, 8, 9, 137, 138, 139] ?_
        refine AW.jo h (fun _ => [(2, .ptr 0 6 0 0), (3, .ptr 1 3 0 0), (6, accV 2 1 ((i63_1.map i64V).map (·.map .d))), (7, vI (IntKind.wrap .i64 ((p0.kids.length : Int) - (1 : Int)))), (8, vI i63_0), (9, .ptr 3 6 0 0), (137, vL NodeA.enc s79), (138, vI (s79.length : Int)), (139, vI i81_0)]) (fun _ => [vE p0.enc, vE p1.enc, accO 1 ((i63_1.map i64V).map (·.map .d)), vE x70.enc]) (fun oJ87 h hJ87 => ?_) fun ⟨⟩ h => ?_
        ·refine AW.block ?_
         refine AW.ro ?_
         refine bx h fun x88 h0 h1 h => ?_
         refine AW.ks [0, 1, 2, 3, 6] [2, 3, 6, 7, 8, 9, 11, 137, 138, 139] ?_
         refine AW.jn h (fun v90_0 => [(2, .ptr 0 6 0 0), (3, .ptr 1 3 0 0), (6, accV 2 1 ((i63_1.map i64V).map (·.map .d))), (7, vI (IntKind.wrap .i64 ((p0.kids.length : Int) - (1 : Int)))), (8, vI i63_0), (9, .ptr 3 6 0 0), (137, vL NodeA.enc s79), (138, vI (s79.length : Int)), (139, vI i81_0), (152, vB v90_0)]) (fun v90_0 => [vE p0.enc, vE p1.enc, accO 1 ((i63_1.map i64V).map (·.map .d)), vE x70.enc]) (fun oJ91 h => ?_) fun v90_0 h => ?_
         ·refine AW.rp ?_
          refine sK h (fun hb92 h => ?_) fun hb92 h => ?_
          ·exact ja [0, 1, 2, 3] h
          exact ja [0, 1, 2, 3] h
         refine AW.tk h (fun hb93 h => ?_) fun hb93 h => ?_
         ·refine AW.ro ?_
          refine AW.ret ?_
          have h := up h hJ87
          have h := up h hJ84
          have h := up h hJ69
          have h := up h hJ66
          have h := up h hJ26
          cases h; refine nz ?_; exact .same _
         exact jo [0, 1, 2, 3] h
        refine AW.rp ?_
        exact na [0, 1, 2, 3] h
       refine AW.ex ?_
       exact jo [0, 1, 2] h
      refine AW.ks [0, 1, 2] [2, 3, 6, 7, 8] ?_
      refine AW.rp ?_
      refine ag (f := i64V) h fun l94 hx95 h => ?_
      exact jo [0, 1, 5] h
     refine AW.rp ?_
     exact na [0, 1, 2] h
    refine AW.ex ?_
    exact jo [0, 1, 2] h
   refine AW.kr [0, 1, 2] [2, 3, 6] ?_
   refine ag (f := i64V) h fun l96 hx97 h => ?_
   refine AW.ks [0, 1, 5] [2, 3, 6] ?_
   refine AW.rp ?_
   refine JoinQ.mkS (l96, (Tree_placeA.mk p1.inDiff p1.inFDiff true)) [0, 1] [2] [(6, .d (slD i64V l96))] [] (Option.some.inj h).symm (by simp only [go_sem, reduceEqDiff, reduceAdd, reduceSub, reduceMul, reduceLeDiff, reduceLT, Nat.reduceBEq, reduceIte, sealL_cons, sealL_nil]; exact sealAcc (by simp only [go_sem, reduceEqDiff, reduceAdd, reduceSub, reduceMul, reduceLeDiff, reduceLT, Nat.reduceBEq, reduceIte])) (by simp only [go_sem, reduceEqDiff, reduceAdd, reduceSub, reduceMul, reduceLeDiff, reduceLT, Nat.reduceBEq, reduceIte, sealH_cons, sealH_nil]) (by simp only [go_sem, reduceEqDiff, reduceAdd, reduceSub, reduceMul, reduceLeDiff, reduceLT, Nat.reduceBEq, reduceIte])
  refine AW.ro ?_
  refine AW.ks [0, 1] [2, 3, 6, 72, 161] ?_
  refine AW.tt h (fun hb98 h => ?_) fun hb98 h => ?_
  ·refine AW.jn h (fun v99_0 => [(2, .ptr 0 6 0 0), (3, .ptr 1 3 0 0), (6, nilV i64V r12.2), (172, vB v99_0)]) (fun v99_0 => [vE p0.enc, vE p1.enc]) (fun oJ100 h => ?_) fun v99_0 h => ?_
   ·refine AW.rp ?_
    refine sK h (fun hb101 h => ?_) fun hb101 h => ?_
    ·exact ja [0, 1] h
    refine sK h (fun hb102 h => ?_) fun hb102 h => ?_
    ·exact ja [0, 1] h
    exact ja [0, 1] h
   refine AW.tk h (fun hb103 h => ?_) fun hb103 h => ?_
   ·refine AW.ro ?_
    refine AW.ret ?_
    have h := up h hJ26
    cases h; refine nz ?_; exact .same _
   refine JoinQ.mkS ((r12.2.getD []), p1) [0, 1] [] [(6, .d (slD i64V (r12.2.getD [])))] [] (Option.some.inj h).symm (by simp only [go_sem, reduceEqDiff, reduceAdd, reduceSub, reduceMul, reduceLeDiff, reduceLT, Nat.reduceBEq, reduceIte, sealL_cons, sealL_nil]; exact sealNil) (by simp only [go_sem, reduceEqDiff, reduceAdd, reduceSub, reduceMul, reduceLeDiff, reduceLT, Nat.reduceBEq, reduceIte, sealH_cons, sealH_nil]) (by simp only [go_sem, reduceEqDiff, reduceAdd, reduceSub, reduceMul, reduceLeDiff, reduceLT, Nat.reduceBEq, reduceIte])
  refine AW.ro ?_
  refine AW.ks [0, 1] [2, 3, 6, 72, 173] ?_
  refine AW.tt h (fun hb104 h => ?_) fun hb104 h => ?_
  ·refine AW.jo h (fun _ => [(2, .ptr 0 6 0 0), (3, .ptr 1 3 0 0), (6, nilV i64V r12.2)]) (fun _ => [vE p0.enc, vE p1.enc]) (fun oJ106 h hJ106 => ?_) fun ⟨⟩ h => ?_
   ·refine AW.jn h (fun v107_0 => [(2, .ptr 0 6 0 0), (3, .ptr 1 3 0 0), (6, nilV i64V r12.2), (180, vB v107_0)]) (fun v107_0 => [vE p0.enc, vE p1.enc]) (fun oJ108 h => ?_) fun v107_0 h => ?_
    ·refine AW.rp ?_
     refine sK h (fun hb109 h => ?_) fun hb109 h => ?_
     ·exact ja [0, 1] h
     exact ja [0, 1] h
    refine AW.tk h (fun hb110 h => ?_) fun hb110 h => ?_
    ·refine AW.ro ?_
     refine AW.ret ?_
     have h := up h hJ106
     have h := up h hJ26
     cases h; refine nz ?_; exact .same _
    exact jo [0, 1] h
   refine AW.rp ?_
   refine JoinQ.mkS ((r12.2.getD []), (Tree_placeA.mk true p1.inFDiff p1.inFlow)) [0, 1] [] [(6, .d (slD i64V (r12.2.getD [])))] [] (Option.some.inj h).symm (by simp only [go_sem, reduceEqDiff, reduceAdd, reduceSub, reduceMul, reduceLeDiff, reduceLT, Nat.reduceBEq, reduceIte, sealL_cons, sealL_nil]; exact sealNil) (by simp only [go_sem, reduceEqDiff, reduceAdd, reduceSub, reduceMul, reduceLeDiff, reduceLT, Nat.reduceBEq, reduceIte, sealH_cons, sealH_nil]) (by simp only [go_sem, reduceEqDiff, reduceAdd, reduceSub, reduceMul, reduceLeDiff, reduceLT, Nat.reduceBEq, reduceIte])
  refine AW.ro ?_
  refine AW.ks [0, 1] [2, 3, 6, 182] ?_
  refine AW.tk h (fun hb111 h => ?_) fun hb111 h => ?_
  ·refine AW.jo h (fun _ => [(2, .ptr 0 6 0 0), (3, .ptr 1 3 0 0), (6, nilV i64V r12.2)]) (fun _ => [vE p0.enc, vE p1.enc]) (fun oJ113 h hJ113 => ?_) fun ⟨⟩ h => ?_
   ·refine AW.jn h (fun v114_0 => [(2, .ptr 0 6 0 0), (3, .ptr 1 3 0 0), (6, nilV i64V r12.2), (199, vB v114_0)]) (fun v114_0 => [vE p0.enc, vE p1.enc]) (fun oJ115 h => ?_) fun v114_0 h => ?_
    ·refine AW.rp ?_
     refine sK h (fun hb116 h => ?_) fun hb116 h => ?_
     ·exact ja [0, 1] h
     refine sK h (fun hb117 h => ?_) fun hb117 h => ?_
     ·exact ja [0, 1] h
     refine bx h fun x118 h0 h1 h => ?_
     refine cm h tree_differentiable_ok fun r120 hx121 h => ?_
     exact ja [0, 1] h
    refine AW.tk h (fun hb122 h => ?_) fun hb122 h => ?_
    ·refine AW.ro ?_
     refine AW.ret ?_
     have h := up h hJ113
     have h := up h hJ26
     cases h; refine nz ?_; exact .same _
    exact jo [0, 1] h
   refine AW.rp ?_
   refine JoinQ.mkS ((r12.2.getD []), (Tree_placeA.mk p1.inDiff true p1.inFlow)) [0, 1] [] [(6, .d (slD i64V (r12.2.getD [])))] [] (Option.some.inj h).symm (by simp only [go_sem, reduceEqDiff, reduceAdd, reduceSub, reduceMul, reduceLeDiff, reduceLT, Nat.reduceBEq, reduceIte, sealL_cons, sealL_nil]; exact sealNil) (by simp only [go_sem, reduceEqDiff, reduceAdd, reduceSub, reduceMul, reduceLeDiff, reduceLT, Nat.reduceBEq, reduceIte, sealH_cons, sealH_nil]) (by simp only [go_sem, reduceEqDiff, reduceAdd, reduceSub, reduceMul, reduceLeDiff, reduceLT, Nat.reduceBEq, reduceIte])
  refine JoinQ.mkS ((r12.2.getD []), p1) [0, 1] [] [(6, .d (slD i64V (r12.2.getD [])))] [] (Option.some.inj h).symm (by simp only [go_sem, reduceEqDiff, reduceAdd, reduceSub, reduceMul, reduceLeDiff, reduceLT, Nat.reduceBEq, reduceIte, sealL_cons, sealL_nil]; exact sealNil) (by simp only [go_sem, reduceEqDiff, reduceAdd, reduceSub, reduceMul, reduceLeDiff, reduceLT, Nat.reduceBEq, reduceIte, sealH_cons, sealH_nil]) (by simp only [go_sem, reduceEqDiff, reduceAdd, reduceSub, reduceMul, reduceLeDiff, reduceLT, Nat.reduceBEq, reduceIte])
 try dsimp only at h
 refine AW.one ?_
 refine AW.ro ?_
 refine AW.ks [0, 1] [2, 3, 6, 206] ?_
 refine AW.tk h (fun hb123 h => ?_) fun hb123 h => ?_
 ·refine AW.ro ?_
  refine AW.ret ?_
  cases h; refine nz ?_; exact .same _
 refine AW.ks [0, 1] [2, 3, 6] ?_
 refine AW.one ?_
 refine AW.ro ?_
 refine AW.ks [0, 1] [2, 3, 6, 208, 209, 210] ?_
 refine AW.lp h (fun _ => [(2, .ptr 0 6 0 0)]) (fun _ => [vE p0.enc]) (fun i124_0 => [(2, .ptr 0 6 0 0), (3, .ptr 1 3 0 0), (6, vL i64V v25_0), (208, vL NodeA.enc p0.kids), (209, vI (p0.kids.length : Int)), (210, vI i124_0)]) (fun i124_0 => [vE p0.enc, vE v25_1.enc]) [0, 1] (fun oJ127 hJ127 again i124_0 h => ?_) fun ⟨⟩ h => ?_
 ·refine AW.ro ?_
  refine AW.ks [0, 1] [2, 3, 6, 208, 209, 210, 211] ?_
  refine AW.one ?_
  refine AW.tt h (fun hb128 h => ?_) fun hb128 h => ?_
  ·refine AW.sk ?_
   refine AW.ks [0, 1] [2, 3, 6, 208, 209, 210] ?_
   refine AW.jo h (fun _ => [(2, .ptr 0 6 0 0), (3, .ptr 1 3 0 0), (6, vL i64V v25_0), (208, vL NodeA.enc p0.kids), (209, vI (p0.kids.length : Int)), (210, vI i124_0)]) (fun _ => [vE p0.enc, vE v25_1.enc]) (fun oJ130 h hJ130 => ?_) fun ⟨⟩ h => ?_
   ·refine AW.block ?_
    refine AW.ro ?_
    refine bx h fun x131 h0 h1 h => ?_
    refine AW.ks [0, 1, 5] [2, 3, 6, 12, 13, 208, 209, 210] ?_
    refine AW.jn h (fun v133_0 => [(2, .ptr 0 6 0 0), (3, .ptr 1 3 0 0), (6, vL i64V v25_0), (208, vL NodeA.enc p0.kids), (209, vI (p0.kids.length : Int)), (210, vI i124_0), (228, vB v133_0)]) (fun v133_0 => [vE p0.enc, vE v25_1.enc]) (fun oJ134 h => ?_) fun v133_0 h => ?_
    ·refine AW.rp ?_
     refine pm h tree_Sort_ok fun r135 hx136 h => ?_
     refine bx h fun x137 h0 h1 h => ?_
     refine sK h (fun hb139 h => ?_) fun hb139 h => ?_
     ·exact ja [0, 1] h
     refine pm h (hself46 _ _) fun r140 hx141 h => ?_
     exact ja [0, 1] h
    refine AW.tk h (fun hb142 h => ?_) fun hb142 h => ?_
    ·refine AW.ro ?_
     refine AW.ret ?_
     have h := up h hJ130
     have h := up h hJ127
     cases h; refine nz ?_; exact .same _
    exact jo [0, 1] h
   refine AW.rp ?_
   exact na [0, 1] h
  refine AW.ex ?_
  exact jo [0] h
 refine AW.ks [0] [2] ?_
 refine AW.one ?_
 refine AW.ro ?_
 refine AW.ks [0] [2, 232] ?_
 refine AW.tk h (fun hb143 h => ?_) fun hb143 h => ?_
 ·refine AW.ro ?_
  refine bx h fun x144 h0 h1 h => ?_
  refine sK h (fun hb146 h => ?_) fun hb146 h => ?_
  ·refine AW.ret ?_
   cases h; refine nz ?_; exact .same _
  refine AW.ret ?_
  cases h; refine nz ?_; exact .same _
 refine AW.ks [0] [2] ?_
 refine AW.one ?_
 refine AW.ro ?_
 refine AW.ks [0] [2, 251] ?_
 refine AW.tk h (fun hb147 h => ?_) fun hb147 h => ?_
 ·refine AW.ro ?_
  refine bx h fun x148 h0 h1 h => ?_
  refine AW.kr [5] [14] ?_
  refine sK h (fun hb150 h => ?_) fun hb150 h => ?_
  ·refine sK h (fun hb151 h => ?_) fun hb151 h => ?_
   ·refine AW.ret ?_
    cases h; refine nz ?_; exact .same _
   refine sK h (fun hb152 h => ?_) fun hb152 h => ?_
   ·refine bx h fun x153 h0 h1 h => ?_
    refine AW.ret ?_
    cases h; refine nz ?_; exact .same _
   refine AW.ret ?_
   cases h; refine nz ?_; exact .same _
  refine AW.ret ?_
  cases h; refine nz ?_; exact .same _
 refine AW.kr [] [] ?_
 refine AW.ret ?_
 cases h; refine nz ?_; exact .same _
def tree_formed (K : Nat) (p0 : NodeA) (p1 : Tree_placeA) : Option Bool := iter K (fun self q => tree_formed_body K self q.1 q.2) (p0, p1)
theorem key_tree_formed {K : Nat} (k : Nat) : (∀ (q : NodeA × Tree_placeA) (r : Bool), iter k (fun self q => tree_formed_body K self q.1 q.2) q = some r → Cn Tryz.prog 46 [aggV q.1.enc, aggV q.2.enc] (.d (.val (.bool r)))) := by
 induction k with
 | zero => exact fun q r h => by cases h
 | succ k ih => exact fun q r h => tree_formed_step K _ ih q.1 q.2 r h
theorem tree_formed_ok {K : Nat} {p0 : NodeA} {p1 : Tree_placeA} {r : Bool} (h : tree_formed K p0 p1 = some r) : Cn Tryz.prog 46 [aggV p0.enc, aggV p1.enc] (.d (.val (.bool r))) := (key_tree_formed K) (p0, p1) r h
/-! ### isochrone/tree.within -/
def tree_within_body (K : Nat) (self45 : (NodeA × Int × Int) → Option (Bool × Int)) (p0 : NodeA) (p1 : Int) (p2 : Int) : Option (Bool × Int) := ((
  ((
   if (decide ((IntKind.wrap .i64 (p1 - (1 : Int))) < (0 : Int))) then
    some true
   else
    some (decide (p2 ≤ (0 : Int)))) : Option Bool).bind (fun v3_0 =>
  if v3_0 then
   outM (
    some (false, IntKind.wrap .i64 (p1 - (1 : Int))))
  else
   some (.go ()))) : Option (Out Unit _)).bind (Out.fin fun _ =>
 ((iter (S := Int × Int) (R := Out Int _) K (fun again (i7_0, i7_1) =>
  if (decide (i7_0 < (p0.kids.length : Int))) then
   (idx p0.kids i7_0).bind fun x12 =>
   (self45 (x12, i7_1, IntKind.wrap .i64 (p2 - (1 : Int)))).bind fun r14 =>
   if (!r14.1) then
    outM (
     some (false, r14.2))
   else
    again (IntKind.wrap .i64 (i7_0 + (1 : Int)), r14.2)
  else
   some (.go i7_1)) ((0 : Int), IntKind.wrap .i64 (p1 - (1 : Int)))) : Option (Out Int _)).bind (Out.fin fun e8_0 =>
 some (true, e8_0)))
set_option maxHeartbeats 4000000 in
theorem tree_within_step (K : Nat) (self45 : (NodeA × Int × Int) → Option (Bool × Int)) (hself45 : ∀ (q : NodeA × Int × Int) (r : Bool × Int), self45 q = some r → Cl Tryz.prog 45 [aggV q.1.enc, .ptr 0 1 0 0, .d (.val (.int .i64 q.2.2))] [⟨1, [[.d (.val (.int .i64 q.2.1))]]⟩] (.d (.val (.bool r.1))) [⟨1, [[.d (.val (.int .i64 r.2))]]⟩]) (p0 : NodeA) (p1 : Int) (p2 : Int) (r : Bool × Int) (h : tree_within_body K self45 p0 p1 p2 = some r) : Cl Tryz.prog 45 [aggV p0.enc, .ptr 0 1 0 0, .d (.val (.int .i64 p2))] [⟨1, [[.d (.val (.int .i64 p1))]]⟩] (.d (.val (.bool r.1))) [⟨1, [[.d (.val (.int .i64 r.2))]]⟩] := by
 refine Cl.ofA mixed Tryz.func45 rfl Tryz.call45 Tryz.ntmps45 Tryz.results45 (by simp) rfl (by simp only [go_sem, reduceEqDiff, reduceAdd, reduceSub, reduceMul, reduceLeDiff, reduceLT, Nat.reduceBEq, reduceIte, List.length_cons]) (by simp only [go_sem, reduceEqDiff, reduceAdd, reduceSub, reduceMul, reduceLeDiff, reduceLT, Nat.reduceBEq, reduceIte]) (by simp only [go_sem, reduceEqDiff, reduceAdd, reduceSub, reduceMul, reduceLeDiff, reduceLT, Nat.reduceBEq, reduceIte]) (by simp only [go_sem, reduceEqDiff, reduceAdd, reduceSub, reduceMul, reduceLeDiff, reduceLT, Nat.reduceBEq, reduceIte]) fun hfit => ?_
 unfold tree_within_body at h
 refine AW.kr [0] [0, 1, 2] ?_
 refine AW.kr [0, 1] [1, 2, 3] ?_
 refine AW.ks [0, 1] [1, 2, 3] ?_
 refine AW.jo h (fun _ => [(1, .ptr 0 1 0 0), (2, vI p2), (3, .ptr 1 6 0 0)]) (fun _ => [vE1 (vI (IntKind.wrap .i64 (p1 - (1 : Int)))), vE p0.enc]) (fun oJ2 h hJ2 => ?_) fun ⟨⟩ h => ?_
 ·refine AW.jn h (fun v3_0 => [(1, .ptr 0 1 0 0), (2, vI p2), (3, .ptr 1 6 0 0), (21, vB v3_0)]) (fun v3_0 => [vE1 (vI (IntKind.wrap .i64 (p1 - (1 : Int)))), vE p0.enc]) (fun oJ4 h => ?_) fun v3_0 h => ?_
  ·refine AW.rp ?_
   refine sK h (fun hb5 h => ?_) fun hb5 h => ?_
   ·exact ja [0, 1] h
   exact ja [0, 1] h
  refine AW.tk h (fun hb6 h => ?_) fun hb6 h => ?_
  ·refine AW.ro ?_
   refine AW.ret ?_
   have h := up h hJ2
   cases h; refine nz ?_; exact ⟨.same _, ⟨⟨.same _, trivial⟩, trivial⟩⟩
  exact jo [0, 1] h
 refine AW.one ?_
 refine AW.ro ?_
 refine AW.ks [0] [1, 2, 23, 24, 25] ?_
 refine AW.lp h (fun e8_0 => []) (fun e8_0 => [vE1 (vI e8_0)]) (fun (i7_0, i7_1) => [(1, .ptr 0 1 0 0), (2, vI p2), (23, vL NodeA.enc p0.kids), (24, vI (p0.kids.length : Int)), (25, vI i7_0)]) (fun (i7_0, i7_1) => [vE1 (vI i7_1)]) [0] (fun oJ10 hJ10 again ⟨i7_0, i7_1⟩ h => ?_) fun e8_0 h => ?_
 ·try dsimp only at h
  refine AW.ro ?_
  refine AW.ks [0] [1, 2, 23, 24, 25, 26] ?_
  refine AW.one ?_
  refine AW.tt h (fun hb11 h => ?_) fun hb11 h => ?_
  ·refine AW.sk ?_
   refine AW.ks [0] [1, 2, 23, 24, 25] ?_
   refine AW.one ?_
   refine AW.block ?_
   refine AW.ro ?_
   refine bx h fun x12 h0 h1 h => ?_
   refine AW.kr [0, 3] [1, 2, 8, 23, 24, 25] ?_
   apply bE h; intro r14 hx15 h
   have hc := nx (hself45 _ _ hx15)
   refine callK_loc [0] hc (by simp only [go_sem, reduceEqDiff, reduceAdd, reduceSub, reduceMul, reduceLeDiff, reduceLT, Nat.reduceBEq, reduceIte]) (by simp) (by simp only [go_sem, reduceEqDiff, reduceAdd, reduceSub, reduceMul, reduceLeDiff, reduceLT, Nat.reduceBEq, reduceIte]) ?_
   refine ns ?_
   refine AW.ks [0] [1, 2, 23, 24, 25, 34] ?_
   refine AW.tk h (fun hb16 h => ?_) fun hb16 h => ?_
   ·refine AW.ro ?_
    refine AW.ret ?_
    have h := up h hJ10
    cases h; refine nz ?_; exact ⟨.same _, ⟨⟨.same _, trivial⟩, trivial⟩⟩
   refine AW.ks [0] [1, 2, 23, 24, 25] ?_
   refine AW.rp ?_
   exact na [0] h
  refine AW.ex ?_
  exact jo [0] h
 refine AW.kr [0] [] ?_
 refine AW.ret ?_
 cases h; refine nz ?_; exact ⟨.same _, ⟨⟨.same _, trivial⟩, trivial⟩⟩
def tree_within (K : Nat) (p0 : NodeA) (p1 : Int) (p2 : Int) : Option (Bool × Int) := iter K (fun self q => tree_within_body K self q.1 q.2.1 q.2.2) (p0, p1, p2)
theorem key_tree_within {K : Nat} (k : Nat) : (∀ (q : NodeA × Int × Int) (r : Bool × Int), iter k (fun self q => tree_within_body K self q.1 q.2.1 q.2.2) q = some r → Cl Tryz.prog 45 [aggV q.1.enc, .ptr 0 1 0 0, .d (.val (.int .i64 q.2.2))] [⟨1, [[.d (.val (.int .i64 q.2.1))]]⟩] (.d (.val (.bool r.1))) [⟨1, [[.d (.val (.int .i64 r.2))]]⟩]) := by
 induction k with
 | zero => exact fun q r h => by cases h
 | succ k ih => exact fun q r h => tree_within_step K _ ih q.1 q.2.1 q.2.2 r h
theorem tree_within_ok {K : Nat} {p0 : NodeA} {p1 : Int} {p2 : Int} {r : Bool × Int} (h : tree_within K p0 p1 p2 = some r) : Cl Tryz.prog 45 [aggV p0.enc, .ptr 0 1 0 0, .d (.val (.int .i64 p2))] [⟨1, [[.d (.val (.int .i64 p1))]]⟩] (.d (.val (.bool r.1))) [⟨1, [[.d (.val (.int .i64 r.2))]]⟩] := (key_tree_within K) (p0, p1, p2) r h
/-! ### isochrone/tree.Check -/
def tree_Check (K : Nat) (p0 : NodeA) (p1 : Int) : Option Int := ((
  ((
   if (decide (p1 < (1 : Int))) then
    some true
   else
    some (decide ((3 : Int) < p1))) : Option Bool).bind (fun v3_0 =>
  if v3_0 then
   outM (
    some (1 : Int))
  else
   some (.go ()))) : Option (Out Unit _)).bind (Out.fin fun _ =>
 (tree_within K p0 (4000 : Int) (60 : Int)).bind fun r7 =>
 if (!r7.1) then
  some (2 : Int)
 else
  (tree_Sort K p0.op).bind fun r10 =>
  if (r10 != p1) then
   some (80 : Int)
  else
   (tree_formed K p0 (Tree_placeA.mk false false false)).bind fun r13 =>
   if (!r13) then
    some (3 : Int)
   else
    some (0 : Int))
set_option maxHeartbeats 4000000 in
theorem tree_Check_ok {K : Nat} {p0 : NodeA} {p1 : Int} {r : Int} (h : tree_Check K p0 p1 = some r) : Cn Tryz.prog 21 [aggV p0.enc, .d (.val (.int .i64 p1))] (.d (.val (.int .i64 r))) := by
 refine Cn.oz Tryz.func21 Tryz.call21 Tryz.ntmps21 Tryz.results21 fun hfit => ?_
 unfold tree_Check at h
 refine AW.kr [] [0, 1] ?_
 refine AW.ks [0] [1, 2] ?_
 refine AW.jo h (fun _ => [(1, vI p1), (2, .ptr 0 6 0 0)]) (fun _ => [vE p0.enc]) (fun oJ2 h hJ2 => ?_) fun ⟨⟩ h => ?_
 ·refine AW.jn h (fun v3_0 => [(1, vI p1), (2, .ptr 0 6 0 0), (11, vB v3_0)]) (fun v3_0 => [vE p0.enc]) (fun oJ4 h => ?_) fun v3_0 h => ?_
  ·refine AW.rp ?_
   refine sK h (fun hb5 h => ?_) fun hb5 h => ?_
   ·exact ja [0] h
   exact ja [0] h
  refine AW.tk h (fun hb6 h => ?_) fun hb6 h => ?_
  ·refine AW.ro ?_
   refine AW.ret ?_
   have h := up h hJ2
   cases h; refine nz ?_; exact .same _
  exact jo [0] h
 refine AW.ro ?_
 refine AW.ks [0, 1] [1, 2, 5] ?_
 refine AW.one ?_
 refine AW.ro ?_
 apply bE h; intro r7 hx8 h
 have hc := nx (tree_within_ok (h := hx8))
 refine callK_loc [1] hc (by simp only [go_sem, reduceEqDiff, reduceAdd, reduceSub, reduceMul, reduceLeDiff, reduceLT, Nat.reduceBEq, reduceIte]) (by simp) (by simp only [go_sem, reduceEqDiff, reduceAdd, reduceSub, reduceMul, reduceLeDiff, reduceLT, Nat.reduceBEq, reduceIte]) ?_
 refine ns ?_
 refine AW.ks [0] [1, 2, 14] ?_
 refine AW.tk h (fun hb9 h => ?_) fun hb9 h => ?_
 ·refine AW.ro ?_
  refine AW.ret ?_
  cases h; refine nz ?_; exact .same _
 refine AW.ks [0] [1, 2] ?_
 refine AW.one ?_
 refine AW.ro ?_
 refine cm h tree_Sort_ok fun r10 hx11 h => ?_
 refine AW.ks [0] [2, 19] ?_
 refine AW.tk h (fun hb12 h => ?_) fun hb12 h => ?_
 ·refine AW.ro ?_
  refine AW.ret ?_
  cases h; refine nz ?_; exact .same _
 refine AW.ks [0] [2] ?_
 refine AW.one ?_
 refine AW.ro ?_
 refine cm h tree_formed_ok fun r13 hx14 h => ?_
 refine AW.ks [] [23] ?_
 refine AW.tk h (fun hb15 h => ?_) fun hb15 h => ?_
 ·refine AW.ro ?_
  refine AW.ret ?_
  cases h; refine nz ?_; exact .same _
 refine AW.kr [] [] ?_
 refine AW.ret ?_
 cases h; refine nz ?_; exact .same _
/-! ### isochrone/tree.less -/
def tree_less (K : Nat) (p0 : Bool) : Option Int := if p0 then
  some (-1 : Int)
 else
  some (1 : Int)
set_option maxHeartbeats 4000000 in
theorem tree_less_ok {K : Nat} {p0 : Bool} {r : Int} (h : tree_less K p0 = some r) : Cn Tryz.prog 68 [.d (.val (.bool p0))] (.d (.val (.int .i64 r))) := by
 refine Cn.oz Tryz.func68 Tryz.call68 Tryz.ntmps68 Tryz.results68 fun hfit => ?_
 unfold tree_less at h
 refine AW.kr [] [0] ?_
 refine AW.ks [] [0] ?_
 refine AW.one ?_
 refine AW.ro ?_
 refine AW.ks [] [3] ?_
 refine AW.tk h (fun hb1 h => ?_) fun hb1 h => ?_
 ·refine AW.ro ?_
  refine AW.ret ?_
  cases h; refine nz ?_; exact .same _
 refine AW.kr [] [] ?_
 refine AW.ret ?_
 cases h; refine nz ?_; exact .same _
/-! ### isochrone/tree.words -/
def tree_words (K : Nat) (p0 : List Int) (p1 : List Int) : Option Int := if ((p0.length : Int) != (p1.length : Int)) then
  (tree_less K (decide ((p0.length : Int) < (p1.length : Int)))).bind fun r2 =>
  some r2
 else
  ((iter (S := Int) (R := Out Unit _) K (fun again i4_0 =>
   if (decide ((0 : Int) ≤ i4_0)) then
    (idx p0 i4_0).bind fun x9 =>
    (idx p1 i4_0).bind fun x11 =>
    if (x9 != x11) then
     (tree_less K (decide (x9 < x11))).bind fun r14 =>
     outM (
      some r14)
    else
     again (IntKind.wrap .i64 (i4_0 - (1 : Int)))
   else
    some (.go ())) (IntKind.wrap .i64 ((p0.length : Int) - (1 : Int)))) : Option (Out Unit _)).bind (Out.fin fun _ =>
  some (0 : Int))
set_option maxHeartbeats 4000000 in
theorem tree_words_ok {K : Nat} {p0 : List Int} {p1 : List Int} {r : Int} (h : tree_words K p0 p1 = some r) : Cn Tryz.prog 69 [.d (slD u32V p0), .d (slD u32V p1)] (.d (.val (.int .i64 r))) := by
 refine Cn.oz Tryz.func69 Tryz.call69 Tryz.ntmps69 Tryz.results69 fun hfit => ?_
 unfold tree_words at h
 refine AW.kr [] [0, 1] ?_
 refine AW.ks [] [0, 1] ?_
 refine AW.one ?_
 refine AW.ro ?_
 refine AW.ks [] [0, 1, 10] ?_
 refine AW.tk h (fun hb1 h => ?_) fun hb1 h => ?_
 ·refine AW.ro ?_
  refine cm h tree_less_ok fun r2 hx3 h => ?_
  refine AW.ret ?_
  cases h; refine nz ?_; exact .same _
 refine AW.ks [] [0, 1] ?_
 refine AW.one ?_
 refine AW.ro ?_
 refine AW.ks [] [0, 1, 5] ?_
 refine AW.lp h (fun _ => []) (fun _ => []) (fun i4_0 => [(0, vL u32V p0), (1, vL u32V p1), (5, vI i4_0)]) (fun i4_0 => []) [] (fun oJ7 hJ7 again i4_0 h => ?_) fun ⟨⟩ h => ?_
 ·refine AW.one ?_
  refine AW.ro ?_
  refine AW.ks [] [0, 1, 5, 21] ?_
  refine AW.tt h (fun hb8 h => ?_) fun hb8 h => ?_
  ·refine AW.sk ?_
   refine AW.ks [] [0, 1, 5] ?_
   refine AW.one ?_
   refine AW.block ?_
   refine AW.ro ?_
   refine bx h fun x9 h0 h1 h => ?_
   refine bx h fun x11 h0 h1 h => ?_
   refine AW.ks [] [0, 1, 5, 32] ?_
   refine AW.tk h (fun hb13 h => ?_) fun hb13 h => ?_
   ·refine AW.ro ?_
    refine pm h tree_less_ok fun r14 hx15 h => ?_
    refine AW.ret ?_
    have h := up h hJ7
    cases h; refine nz ?_; exact .same _
   refine AW.ks [] [0, 1, 5] ?_
   refine AW.rp ?_
   exact na [] h
  refine AW.ex ?_
  exact jo [] h
 refine AW.kr [] [] ?_
 refine AW.ret ?_
 cases h; refine nz ?_; exact .same _
/-! ### isochrone/tree.Compare -/
def tree_Compare_body (K : Nat) (self26 : (NodeA × NodeA) → Option Int) (p0 : NodeA) (p1 : NodeA) : Option Int := if (p0.op != p1.op) then
  (tree_less K (decide (p0.op < p1.op))).bind fun r2 =>
  some r2
 else
  if (!(p0.name.toList == p1.name.toList)) then
   (tree_less K (Op.bytesLess p0.name.toList p1.name.toList)).bind fun r5 =>
   some r5
  else
   if (!(p0.num.neg == p1.num.neg)) then
    (tree_less K p1.num.neg).bind fun r8 =>
    some r8
   else
    (tree_words K p0.num.num p1.num.num).bind fun r10 =>
    if (r10 != (0 : Int)) then
     some r10
    else
     (tree_words K p0.num.den p1.num.den).bind fun r13 =>
     if (r13 != (0 : Int)) then
      some r13
     else
      if ((p0.kids.length : Int) != (p1.kids.length : Int)) then
       (tree_less K (decide ((p0.kids.length : Int) < (p1.kids.length : Int)))).bind fun r17 =>
       some r17
      else
       ((iter (S := Int) (R := Out Unit _) K (fun again i19_0 =>
        if (decide (i19_0 < (p0.kids.length : Int))) then
         (idx p0.kids i19_0).bind fun x24 =>
         (idx p1.kids i19_0).bind fun x26 =>
         (self26 (x24, x26)).bind fun r28 =>
         if (r28 != (0 : Int)) then
          outM (
           some r28)
         else
          again (IntKind.wrap .i64 (i19_0 + (1 : Int)))
        else
         some (.go ())) (0 : Int)) : Option (Out Unit _)).bind (Out.fin fun _ =>
       some (0 : Int))
set_option maxHeartbeats 4000000 in
theorem tree_Compare_step (K : Nat) (self26 : (NodeA × NodeA) → Option Int) (hself26 : ∀ (q : NodeA × NodeA) (r : Int), self26 q = some r → Cn Tryz.prog 26 [aggV q.1.enc, aggV q.2.enc] (.d (.val (.int .i64 r)))) (p0 : NodeA) (p1 : NodeA) (r : Int) (h : tree_Compare_body K self26 p0 p1 = some r) : Cn Tryz.prog 26 [aggV p0.enc, aggV p1.enc] (.d (.val (.int .i64 r))) := by
 refine Cn.oz Tryz.func26 Tryz.call26 Tryz.ntmps26 Tryz.results26 fun hfit => ?_
 unfold tree_Compare_body at h
 refine AW.kr [] [0, 1] ?_
 refine AW.ks [0, 1] [2, 3] ?_
 refine AW.one ?_
 refine AW.block ?_
 refine AW.ro ?_
 refine AW.ks [0, 1] [2, 3, 9] ?_
 refine AW.tt h (fun hb1 h => ?_) fun hb1 h => ?_
 ·refine AW.ro ?_
  refine cm h tree_less_ok fun r2 hx3 h => ?_
  refine AW.ret ?_
  cases h; refine nz ?_; exact .same _
 refine AW.ro ?_
 refine AW.ks [0, 1] [2, 3, 21] ?_
 refine AW.tt h (fun hb4 h => ?_) fun hb4 h => ?_
 ·refine AW.ro ?_
  refine cm h tree_less_ok fun r5 hx6 h => ?_
  refine AW.ret ?_
  cases h; refine nz ?_; exact .same _
 refine AW.ro ?_
 refine AW.ks [0, 1] [2, 3, 33] ?_
 refine AW.tk h (fun hb7 h => ?_) fun hb7 h => ?_
 ·refine AW.ro ?_
  refine cm h tree_less_ok fun r8 hx9 h => ?_
  refine AW.ret ?_
  cases h; refine nz ?_; exact .same _
 refine AW.ks [0, 1] [2, 3] ?_
 refine AW.one ?_
 refine AW.ro ?_
 refine cm h tree_words_ok fun r10 hx11 h => ?_
 refine AW.kr [0, 1] [2, 3, 5] ?_
 refine AW.ks [0, 1] [2, 3, 5, 53] ?_
 refine AW.tk h (fun hb12 h => ?_) fun hb12 h => ?_
 ·refine AW.ro ?_
  refine AW.ret ?_
  cases h; refine nz ?_; exact .same _
 refine AW.ks [0, 1] [2, 3] ?_
 refine AW.one ?_
 refine AW.ro ?_
 refine cm h tree_words_ok fun r13 hx14 h => ?_
 refine AW.kr [0, 1] [2, 3, 6] ?_
 refine AW.ks [0, 1] [2, 3, 6, 63] ?_
 refine AW.tk h (fun hb15 h => ?_) fun hb15 h => ?_
 ·refine AW.ro ?_
  refine AW.ret ?_
  cases h; refine nz ?_; exact .same _
 refine AW.ks [0, 1] [2, 3] ?_
 refine AW.one ?_
 refine AW.ro ?_
 refine AW.ks [0, 1] [2, 3, 71] ?_
 refine AW.tk h (fun hb16 h => ?_) fun hb16 h => ?_
 ·refine AW.ro ?_
  refine cm h tree_less_ok fun r17 hx18 h => ?_
  refine AW.ret ?_
  cases h; refine nz ?_; exact .same _
 refine AW.ks [0, 1] [2, 3] ?_
 refine AW.one ?_
 refine AW.ro ?_
 refine AW.ks [0, 1] [2, 3, 82, 83] ?_
 refine AW.lp h (fun _ => []) (fun _ => []) (fun i19_0 => [(2, .ptr 0 6 0 0), (3, .ptr 1 6 0 0), (82, vI (p0.kids.length : Int)), (83, vI i19_0)]) (fun i19_0 => [vE p0.enc, vE p1.enc]) [0, 1] (fun oJ22 hJ22 again i19_0 h => ?_) fun ⟨⟩ h => ?_
 ·refine AW.ro ?_
  refine AW.ks [0, 1] [2, 3, 82, 83, 84] ?_
  refine AW.one ?_
  refine AW.tt h (fun hb23 h => ?_) fun hb23 h => ?_
  ·refine AW.sk ?_
   refine AW.ks [0, 1] [2, 3, 82, 83] ?_
   refine AW.one ?_
   refine AW.block ?_
   refine AW.ro ?_
   refine AW.kr [0, 1] [2, 3, 7, 82, 83] ?_
   refine bx h fun x24 h0 h1 h => ?_
   refine bx h fun x26 h0 h1 h => ?_
   refine pm h (hself26 _ _) fun r28 hx29 h => ?_
   refine AW.kr [0, 1] [2, 3, 8, 82, 83] ?_
   refine AW.ks [0, 1] [2, 3, 8, 82, 83, 98] ?_
   refine AW.tk h (fun hb30 h => ?_) fun hb30 h => ?_
   ·refine AW.ro ?_
    refine AW.ret ?_
    have h := up h hJ22
    cases h; refine nz ?_; exact .same _
   refine AW.ks [0, 1] [2, 3, 82, 83] ?_
   refine AW.rp ?_
   exact na [0, 1] h
  refine AW.ex ?_
  exact jo [] h
 refine AW.kr [] [] ?_
 refine AW.ret ?_
 cases h; refine nz ?_; exact .same _
def tree_Compare (K : Nat) (p0 : NodeA) (p1 : NodeA) : Option Int := iter K (fun self q => tree_Compare_body K self q.1 q.2) (p0, p1)
theorem key_tree_Compare {K : Nat} (k : Nat) : (∀ (q : NodeA × NodeA) (r : Int), iter k (fun self q => tree_Compare_body K self q.1 q.2) q = some r → Cn Tryz.prog 26 [aggV q.1.enc, aggV q.2.enc] (.d (.val (.int .i64 r)))) := by
 induction k with
 | zero => exact fun q r h => by cases h
 | succ k ih => exact fun q r h => tree_Compare_step K _ ih q.1 q.2 r h
theorem tree_Compare_ok {K : Nat} {p0 : NodeA} {p1 : NodeA} {r : Int} (h : tree_Compare K p0 p1 = some r) : Cn Tryz.prog 26 [aggV p0.enc, aggV p1.enc] (.d (.val (.int .i64 r))) := (key_tree_Compare K) (p0, p1) r h
/-! ### isochrone/tree.Equal -/
def tree_Equal (K : Nat) (p0 : NodeA) (p1 : NodeA) : Option Bool := (tree_Compare K p0 p1).bind fun r1 =>
 some (r1 == (0 : Int))
set_option maxHeartbeats 4000000 in
theorem tree_Equal_ok {K : Nat} {p0 : NodeA} {p1 : NodeA} {r : Bool} (h : tree_Equal K p0 p1 = some r) : Cn Tryz.prog 27 [aggV p0.enc, aggV p1.enc] (.d (.val (.bool r))) := by
 refine Cn.oz Tryz.func27 Tryz.call27 Tryz.ntmps27 Tryz.results27 fun hfit => ?_
 unfold tree_Equal at h
 refine AW.kr [] [0, 1] ?_
 refine AW.kr [0, 1] [2, 3] ?_
 refine cm h tree_Compare_ok fun r1 hx2 h => ?_
 refine AW.ret ?_
 cases h; refine nz ?_; exact .same _
structure Api_PairA where
 what : NodeA
 with_ : NodeA
 rates : List NodeA
def Api_PairA.enc (x : Api_PairA) : List D := [.val (.int .i64 x.what.op), .val (.string x.what.name), .val (.bool x.what.num.neg), slD u32V x.what.num.num, slD u32V x.what.num.den, slD NodeA.enc x.what.kids, .val (.int .i64 x.with_.op), .val (.string x.with_.name), .val (.bool x.with_.num.neg), slD u32V x.with_.num.num, slD u32V x.with_.num.den, slD NodeA.enc x.with_.kids, slD NodeA.enc x.rates]
theorem Api_PairA.enc_eta (x : Api_PairA) : x.enc = [.val (.int .i64 x.what.op), .val (.string x.what.name), .val (.bool x.what.num.neg), slD u32V x.what.num.num, slD u32V x.what.num.den, slD NodeA.enc x.what.kids, .val (.int .i64 x.with_.op), .val (.string x.with_.name), .val (.bool x.with_.num.neg), slD u32V x.with_.num.num, slD u32V x.with_.num.den, slD NodeA.enc x.with_.kids, slD NodeA.enc x.rates] := rfl
attribute [go_sem] Api_PairA.enc_eta
/-! ### isochrone/subst.valid -/
def subst_valid (K : Nat) (p0 : Api_PairA) : Option Bool := (static_SymbolOf K p0.what).bind fun r1 =>
 ((
  ((
   if (!r1.2) then
    some true
   else
    (tree_Name K p0.what.name).bind fun r8 =>
    if (!r8) then
     some true
    else
     if (decide ((1 : Int) < (p0.what.kids.length : Int))) then
      some true
     else
      (tree_Equal K r1.1 p0.what).bind fun r12 =>
      some (!r12)) : Option Bool).bind (fun v5_0 =>
  if v5_0 then
   outM (
    some false)
  else
   some (.go ()))) : Option (Out Unit _)).bind (Out.fin fun _ =>
 if (p0.what.op == (56 : Int)) then
  ((
   ((
    (tree_Equal K p0.with_ (NodeA.mk (0 : Int) (⟨#[]⟩ : ByteArray) (RatA.mk false [] []) [])).bind fun r20 =>
    if (!r20) then
     some true
    else
     some (decide ((9 : Int) < (p0.rates.length : Int)))) : Option Bool).bind (fun v18_0 =>
   if v18_0 then
    outM (
     some false)
   else
    some (.go ()))) : Option (Out Unit _)).bind (Out.fin fun _ =>
  if ((p0.rates.length : Int) == (0 : Int)) then
   some true
  else
   ((iter (S := Int × Int) (R := Int) K (fun again (i25_0, i25_1) =>
    if (decide (i25_1 < (p0.rates.length : Int))) then
     ((
      (idx p0.rates i25_1).bind fun x32 =>
      if (x32.op == (55 : Int)) then
       some (IntKind.wrap .i64 (i25_0 + (1 : Int)))
      else
       some i25_0) : Option Int).bind (fun v30_0 =>
     again (v30_0, IntKind.wrap .i64 (i25_1 + (1 : Int))))
    else
     some i25_0) ((0 : Int), (0 : Int))) : Option Int).bind (fun e26_0 =>
   if (decide (e26_0 ≤ (8 : Int))) then
    (subst_flow K p0.rates).bind fun r36 =>
    (tree_Check K r36 (3 : Int)).bind fun r38 =>
    if (r38 == (0 : Int)) then
     (subst_flow K p0.rates).bind fun r41 =>
     (static_Uses K r41 [(13 : Int)]).bind fun r43 =>
     some (!r43)
    else
     some false
   else
    some false))
 else
  if (decide ((0 : Int) < (p0.rates.length : Int))) then
   some false
  else
   ((
    ((
     if (p0.what.op == (10 : Int)) then
      some (p0.what.op == (10 : Int))
     else
      some (p0.what.op == (11 : Int))) : Option Bool).bind (fun v48_0 =>
    if v48_0 then
     some (1 : Int)
    else
     ((
      if (p0.what.op == (37 : Int)) then
       some (p0.what.op == (37 : Int))
      else
       some (p0.what.op == (38 : Int))) : Option Bool).bind (fun v52_0 =>
     if v52_0 then
      some (2 : Int)
     else
      some (3 : Int)))) : Option Int).bind (fun v46_0 =>
   (tree_Check K p0.with_ v46_0).bind fun r56 =>
   if (r56 != (0 : Int)) then
    some false
   else
    ((
     ((
      if (p0.what.op == (61 : Int)) then
       (static_Uses K p0.with_ [(60 : Int), (62 : Int)]).bind fun r64 =>
       some r64
      else
       some false) : Option Bool).bind (fun v61_0 =>
     if v61_0 then
      outM (
       some false)
     else
      some (.go ()))) : Option (Out Unit _)).bind (Out.fin fun _ =>
    if (decide ((0 : Int) < (p0.what.kids.length : Int))) then
     some true
    else
     (static_Uses K p0.with_ [(13 : Int)]).bind fun r68 =>
     some (!r68))))
set_option maxHeartbeats 4000000 in
theorem subst_valid_ok {K : Nat} {p0 : Api_PairA} {r : Bool} (h : subst_valid K p0 = some r) : Cn Tryz.prog 35 [aggV p0.enc] (.d (.val (.bool r))) := by
 refine Cn.oz Tryz.func35 Tryz.call35 Tryz.ntmps35 Tryz.results35 fun hfit => ?_
 unfold subst_valid at h
 refine AW.kr [] [0] ?_
 refine AW.kr [0] [1] ?_
 refine cm h static_SymbolOf_ok fun r1 hx2 h => ?_
 refine AW.ks [0, 7] [1, 3, 4] ?_
 refine AW.jo h (fun _ => [(1, .ptr 0 13 0 0)]) (fun _ => [vE p0.enc]) (fun oJ4 h hJ4 => ?_) fun ⟨⟩ h => ?_
 ·refine AW.jn h (fun v5_0 => [(1, .ptr 0 13 0 0), (37, vB v5_0)]) (fun v5_0 => [vE p0.enc]) (fun oJ6 h => ?_) fun v5_0 h => ?_
  ·refine AW.rp ?_
   refine sK h (fun hb7 h => ?_) fun hb7 h => ?_
   ·exact ja [0] h
   refine cm h tree_Name_ok fun r8 hx9 h => ?_
   refine sK h (fun hb10 h => ?_) fun hb10 h => ?_
   ·exact ja [0] h
   refine sK h (fun hb11 h => ?_) fun hb11 h => ?_
   ·exact ja [0] h
   refine cm h tree_Equal_ok fun r12 hx13 h => ?_
   exact ja [0] h
  refine AW.tk h (fun hb14 h => ?_) fun hb14 h => ?_
  ·refine AW.ro ?_
   refine AW.ret ?_
   have h := up h hJ4
   cases h; refine nz ?_; exact .same _
  exact jo [0] h
 refine AW.one ?_
 refine AW.ro ?_
 refine AW.ks [0] [1, 41] ?_
 refine AW.tk h (fun hb15 h => ?_) fun hb15 h => ?_
 ·refine AW.jo h (fun _ => [(1, .ptr 0 13 0 0)]) (fun _ => [vE p0.enc]) (fun oJ17 h hJ17 => ?_) fun ⟨⟩ h => ?_
  ·refine AW.jn h (fun v18_0 => [(1, .ptr 0 13 0 0), (52, vB v18_0)]) (fun v18_0 => [vE p0.enc]) (fun oJ19 h => ?_) fun v18_0 h => ?_
   ·refine AW.rp ?_
    refine cv h tree_Equal_ok (fun r20 hx21 h => ?_) (hs := by exact ⟨.same _, .aggL ⟨.same _, .same _, .same _, .nil, .nil, .nil, trivial⟩, trivial⟩)
    refine sK h (fun hb22 h => ?_) fun hb22 h => ?_
    ·exact ja [0] h
    exact ja [0] h
   refine AW.tk h (fun hb23 h => ?_) fun hb23 h => ?_
   ·refine AW.ro ?_
    refine AW.ret ?_
    have h := up h hJ17
    cases h; refine nz ?_; exact .same _
   exact jo [0] h
  refine AW.one ?_
  refine AW.ro ?_
  refine AW.ks [0] [1, 56] ?_
  refine AW.tk h (fun hb24 h => ?_) fun hb24 h => ?_
  ·refine AW.ro ?_
   refine AW.ret ?_
   cases h; refine nz ?_; exact .same _
  refine AW.kr [0] [1] ?_
  refine AW.ks [0] [1, 5] ?_
  refine AW.one ?_
  refine AW.ro ?_
  refine AW.ks [0] [1, 5, 58, 59, 60] ?_
  refine AW.lm h (fun e26_0 => [(1, .ptr 0 13 0 0), (5, vI e26_0)]) (fun e26_0 => [vE p0.enc]) (fun (i25_0, i25_1) => [(1, .ptr 0 13 0 0), (5, vI i25_0), (58, vL NodeA.enc p0.rates), (59, vI (p0.rates.length : Int)), (60, vI i25_1)]) (fun (i25_0, i25_1) => [vE p0.enc]) [0] (fun oJ28 again ⟨i25_0, i25_1⟩ h => ?_) fun e26_0 h => ?_
  ·try dsimp only at h
   refine AW.ro ?_
   refine AW.ks [0] [1, 5, 58, 59, 60, 61] ?_
   refine AW.one ?_
   refine AW.tt h (fun hb29 h => ?_) fun hb29 h => ?_
   ·refine AW.sk ?_
    refine AW.ks [0] [1, 5, 58, 59, 60] ?_
    refine AW.jn h (fun v30_0 => [(1, .ptr 0 13 0 0), (5, vI v30_0), (58, vL NodeA.enc p0.rates), (59, vI (p0.rates.length : Int)), (60, vI i25_1)]) (fun v30_0 => [vE p0.enc]) (fun oJ31 h => ?_) fun v30_0 h => ?_
    ·refine AW.block ?_
     refine AW.ro ?_
     refine bx h fun x32 h0 h1 h => ?_
     refine AW.kr [0, 3] [1, 5, 7, 58, 59, 60] ?_
     refine AW.ks [0] [1, 5, 58, 59, 60, 66] ?_
     refine AW.tk h (fun hb34 h => ?_) fun hb34 h => ?_
     ·refine AW.rp ?_
      exact ja [0] h
     exact ja [0] h
    refine AW.rp ?_
    exact na [0] h
   refine AW.ex ?_
   exact ja [0] h
  refine AW.kr [0] [1, 5] ?_
  refine sK h (fun hb35 h => ?_) fun hb35 h => ?_
  ·refine cm h subst_flow_ok fun r36 hx37 h => ?_
   refine cm h tree_Check_ok fun r38 hx39 h => ?_
   refine sK h (fun hb40 h => ?_) fun hb40 h => ?_
   ·refine cm h subst_flow_ok fun r41 hx42 h => ?_
    refine cm h static_Uses_ok fun r43 hx44 h => ?_
    refine AW.ret ?_
    cases h; refine nz ?_; exact .same _
   refine AW.ret ?_
   cases h; refine nz ?_; exact .same _
  refine AW.ret ?_
  cases h; refine nz ?_; exact .same _
 refine AW.ks [0] [1] ?_
 refine AW.one ?_
 refine AW.ro ?_
 refine AW.ks [0] [1, 90] ?_
 refine AW.tk h (fun hb45 h => ?_) fun hb45 h => ?_
 ·refine AW.ro ?_
  refine AW.ret ?_
  cases h; refine nz ?_; exact .same _
 refine AW.kr [0] [1] ?_
 refine AW.ks [0] [1, 8] ?_
 refine AW.jn h (fun v46_0 => [(1, .ptr 0 13 0 0), (8, vI v46_0)]) (fun v46_0 => [vE p0.enc]) (fun oJ47 h => ?_) fun v46_0 h => ?_
 ·refine AW.ro ?_
  refine AW.ks [0] [1, 8, 93] ?_
  refine AW.block ?_
  refine AW.jn h (fun v48_0 => [(1, .ptr 0 13 0 0), (8, vI (3 : Int)), (93, vI p0.what.op), (94, vB v48_0)]) (fun v48_0 => [vE p0.enc]) (fun oJ49 h => ?_) fun v48_0 h => ?_
  ·refine AW.ro ?_
   refine AW.ks [0] [1, 8, 93, 94] ?_
   refine AW.tt h (fun hb50 h => ?_) fun hb50 h => ?_
   ·refine AW.sk ?_
    exact ja [0] h
   refine AW.rp ?_
   exact ja [0] h
  refine AW.tt h (fun hb51 h => ?_) fun hb51 h => ?_
  ·refine AW.rp ?_
   exact ja [0] h
  refine AW.jn h (fun v52_0 => [(1, .ptr 0 13 0 0), (8, vI (3 : Int)), (97, vB v52_0)]) (fun v52_0 => [vE p0.enc]) (fun oJ53 h => ?_) fun v52_0 h => ?_
  ·refine AW.ro ?_
   refine AW.ks [0] [1, 8, 93, 97] ?_
   refine AW.tt h (fun hb54 h => ?_) fun hb54 h => ?_
   ·refine AW.sk ?_
    exact ja [0] h
   refine AW.rp ?_
   exact ja [0] h
  refine AW.tk h (fun hb55 h => ?_) fun hb55 h => ?_
  ·refine AW.rp ?_
   exact ja [0] h
  exact ja [0] h
 refine AW.one ?_
 refine AW.ro ?_
 refine cm h tree_Check_ok fun r56 hx57 h => ?_
 refine AW.ks [0] [1, 104] ?_
 refine AW.tk h (fun hb58 h => ?_) fun hb58 h => ?_
 ·refine AW.ro ?_
  refine AW.ret ?_
  cases h; refine nz ?_; exact .same _
 refine AW.ks [0] [1] ?_
 refine AW.jo h (fun _ => [(1, .ptr 0 13 0 0)]) (fun _ => [vE p0.enc]) (fun oJ60 h hJ60 => ?_) fun ⟨⟩ h => ?_
 ·refine AW.jn h (fun v61_0 => [(1, .ptr 0 13 0 0), (114, vB v61_0)]) (fun v61_0 => [vE p0.enc]) (fun oJ62 h => ?_) fun v61_0 h => ?_
  ·refine AW.rp ?_
   refine sK h (fun hb63 h => ?_) fun hb63 h => ?_
   ·refine cm h static_Uses_ok fun r64 hx65 h => ?_
    exact ja [0] h
   exact ja [0] h
  refine AW.tk h (fun hb66 h => ?_) fun hb66 h => ?_
  ·refine AW.ro ?_
   refine AW.ret ?_
   have h := up h hJ60
   cases h; refine nz ?_; exact .same _
  exact jo [0] h
 refine AW.ro ?_
 refine sK h (fun hb67 h => ?_) fun hb67 h => ?_
 ·refine AW.ret ?_
  cases h; refine nz ?_; exact .same _
 refine cm h static_Uses_ok fun r68 hx69 h => ?_
 refine AW.ret ?_
 cases h; refine nz ?_; exact .same _
/-! ### isochrone/subst.Check -/
def subst_Check (K : Nat) (p0 : List Api_PairA) : Option Int := if (decide ((40 : Int) < (p0.length : Int))) then
  some (2 : Int)
 else
  ((iter (S := Int) (R := Out Unit _) K (fun again i2_0 =>
   if (decide (i2_0 < (p0.length : Int))) then
    (idx p0 i2_0).bind fun x7 =>
    (subst_valid K x7).bind fun r9 =>
    if (!r9) then
     outM (
      some (3 : Int))
    else
     (cutL p0 none (some i2_0)).bind fun s12 =>
     ((iter (S := Int) (R := Out Unit _) K (fun again i14_0 =>
      if (decide (i14_0 < (s12.length : Int))) then
       (idx s12 i14_0).bind fun x19 =>
       (tree_Equal K x19.what x7.what).bind fun r21 =>
       if r21 then
        outM (
         outM (
          some (3 : Int)))
       else
        again (IntKind.wrap .i64 (i14_0 + (1 : Int)))
      else
       some (.go ())) (0 : Int)) : Option (Out Unit _)).bind (Out.fin fun _ =>
     again (IntKind.wrap .i64 (i2_0 + (1 : Int))))
   else
    some (.go ())) (0 : Int)) : Option (Out Unit _)).bind (Out.fin fun _ =>
  some (0 : Int))
set_option maxHeartbeats 4000000 in
theorem subst_Check_ok {K : Nat} {p0 : List Api_PairA} {r : Int} (h : subst_Check K p0 = some r) : Cn Tryz.prog 15 [.d (slD Api_PairA.enc p0)] (.d (.val (.int .i64 r))) := by
 refine Cn.oz Tryz.func15 Tryz.call15 Tryz.ntmps15 Tryz.results15 fun hfit => ?_
 unfold subst_Check at h
 refine AW.kr [] [0] ?_
 refine AW.ks [] [0] ?_
 refine AW.one ?_
 refine AW.ro ?_
 refine AW.ks [] [0, 9] ?_
 refine AW.tk h (fun hb1 h => ?_) fun hb1 h => ?_
 ·refine AW.ro ?_
  refine AW.ret ?_
  cases h; refine nz ?_; exact .same _
 refine AW.ks [] [0] ?_
 refine AW.one ?_
 refine AW.ro ?_
 refine AW.ks [] [0, 10, 11, 12] ?_
 refine AW.lp h (fun _ => []) (fun _ => []) (fun i2_0 => [(0, vL Api_PairA.enc p0), (10, vL Api_PairA.enc p0), (11, vI (p0.length : Int)), (12, vI i2_0)]) (fun i2_0 => []) [] (fun oJ5 hJ5 again i2_0 h => ?_) fun ⟨⟩ h => ?_
 ·refine AW.ro ?_
  refine AW.ks [] [0, 10, 11, 12, 13] ?_
  refine AW.one ?_
  refine AW.tt h (fun hb6 h => ?_) fun hb6 h => ?_
  ·refine AW.sk ?_
   refine AW.ks [] [0, 10, 11, 12] ?_
   refine AW.one ?_
   refine AW.block ?_
   refine AW.ro ?_
   refine bx h fun x7 h0 h1 h => ?_
   refine AW.ks [3] [0, 3, 4, 10, 11, 12] ?_
   refine AW.one ?_
   refine AW.ro ?_
   refine cm h subst_valid_ok fun r9 hx10 h => ?_
   refine AW.ks [0] [0, 3, 4, 10, 11, 12, 19] ?_
   refine AW.tk h (fun hb11 h => ?_) fun hb11 h => ?_
   ·refine AW.ro ?_
    refine AW.ret ?_
    have h := up h hJ5
    cases h; refine nz ?_; exact .same _
   refine AW.kr [0] [0, 3, 4, 10, 11, 12] ?_
   refine bb h fun s12 hx13 h => ?_
   refine AW.ks [0] [0, 4, 10, 11, 12, 22, 23, 24] ?_
   refine AW.lp h (fun _ => [(0, vL Api_PairA.enc p0), (10, vL Api_PairA.enc p0), (11, vI (p0.length : Int)), (12, vI i2_0)]) (fun _ => []) (fun i14_0 => [(0, vL Api_PairA.enc p0), (4, .ptr 0 13 0 0), (10, vL Api_PairA.enc p0), (11, vI (p0.length : Int)), (12, vI i2_0), (22, vL Api_PairA.enc s12), (23, vI (s12.length : Int)), (24, vI i14_0)]) (fun i14_0 => [vE x7.enc]) [0] (fun oJ17 hJ17 again i14_0 h => ?_) fun ⟨⟩ h => ?_
   ·refine AW.ro ?_
    refine AW.ks [0] [0, 4, 10, 11, 12, 22, 23, 24, 25] ?_
    refine AW.one ?_
    refine AW.tt h (fun hb18 h => ?_) fun hb18 h => ?_
    ·refine AW.sk ?_
     refine AW.ks [0] [0, 4, 10, 11, 12, 22, 23, 24] ?_
     refine AW.one ?_
     refine AW.block ?_
     refine AW.ro ?_
     refine bx h fun x19 h0 h1 h => ?_
     refine AW.kr [0, 3] [0, 4, 6, 10, 11, 12, 22, 23, 24] ?_
     refine cm h tree_Equal_ok fun r21 hx22 h => ?_
     refine AW.ks [0] [0, 4, 10, 11, 12, 22, 23, 24, 32] ?_
     refine AW.tk h (fun hb23 h => ?_) fun hb23 h => ?_
     ·refine AW.ro ?_
      refine AW.ret ?_
      have h := up h hJ17
      have h := up h hJ5
      cases h; refine nz ?_; exact .same _
     refine AW.ks [0] [0, 4, 10, 11, 12, 22, 23, 24] ?_
     refine AW.rp ?_
     exact na [0] h
    refine AW.ex ?_
    exact jo [] h
   refine AW.ks [] [0, 10, 11, 12] ?_
   refine AW.rp ?_
   exact na [] h
  refine AW.ex ?_
  exact jo [] h
 refine AW.kr [] [] ?_
 refine AW.ret ?_
 cases h; refine nz ?_; exact .same _
structure Subst_walkerA where
 pairs : List Api_PairA
 path : Option (List Int)
 clash : List Int
 found : Bool
 great : Bool
/-! ### (*isochrone/subst.walker).stopped -/
def subst_walker_stopped (K : Nat) (p0 : Subst_walkerA) : Option (Bool × Subst_walkerA) := if p0.found then
  some (true, p0)
 else
  some (p0.great, p0)
set_option maxHeartbeats 4000000 in
theorem subst_walker_stopped_ok {K : Nat} {p0 : Subst_walkerA} {r : Bool × Subst_walkerA} (h : subst_walker_stopped K p0 = some r) : Cm Tryz.prog 47 [.ptr 0 5 0 0] 1 ([some ⟨5, [[.d (slD Api_PairA.enc p0.pairs), gV 1 1 p0.path, .d (slD i64V p0.clash), .d (.val (.bool p0.found)), .d (.val (.bool p0.great))]]⟩] ++ [gO i64V 1 p0.path]) (.d (.val (.bool r.1))) ([some ⟨5, [[.d (slD Api_PairA.enc r.2.pairs), gV 1 1 r.2.path, .d (slD i64V r.2.clash), .d (.val (.bool r.2.found)), .d (.val (.bool r.2.great))]]⟩] ++ [gO i64V 1 r.2.path]) := by
 refine Cm.ofA mixed Tryz.func47 rfl Tryz.call47 Tryz.ntmps47 Tryz.results47 (by simp) rfl rfl (by simp only [go_sem, reduceEqDiff, reduceAdd, reduceSub, reduceMul, reduceLeDiff, reduceLT, Nat.reduceBEq, reduceIte, List.length_cons]) (by simp only [go_sem, reduceEqDiff, reduceAdd, reduceSub, reduceMul, reduceLeDiff, reduceLT, Nat.reduceBEq, reduceIte]) (by simp only [go_sem, reduceEqDiff, reduceAdd, reduceSub, reduceMul, reduceLeDiff, reduceLT, Nat.reduceBEq, reduceIte]) (by simp only [go_sem, reduceEqDiff, reduceAdd, reduceSub, reduceMul, reduceLeDiff, reduceLT, Nat.reduceBEq, reduceIte]) datO_g datO_g fun hfit => ?_
 unfold subst_walker_stopped at h
 refine AW.kr [0, 1] [0] ?_
 refine AW.kr [0, 1] [0] ?_
 refine sK h (fun hb1 h => ?_) fun hb1 h => ?_
 ·refine AW.ret ?_
  cases h; refine nz ?_; refine EndM.mk 1 (by decide) (by simp only [go_sem, reduceEqDiff, reduceAdd, reduceSub, reduceMul, reduceLeDiff, reduceLT, Nat.reduceBEq, reduceIte]) (ns ?_); exact ⟨.same _, ⟨⟨.same _, .same _, .same _, .same _, .same _, trivial⟩, trivial⟩⟩
 refine AW.ret ?_
 cases h; refine nz ?_; refine EndM.mk 1 (by decide) (by simp only [go_sem, reduceEqDiff, reduceAdd, reduceSub, reduceMul, reduceLeDiff, reduceLT, Nat.reduceBEq, reduceIte]) (ns ?_); exact ⟨.same _, ⟨⟨.same _, .same _, .same _, .same _, .same _, trivial⟩, trivial⟩⟩
structure Api_NamesA where
 all : Bool
 list : List ByteArray
def Api_NamesA.enc (x : Api_NamesA) : List D := [.val (.bool x.all), slD strV x.list]
theorem Api_NamesA.enc_eta (x : Api_NamesA) : x.enc = [.val (.bool x.all), slD strV x.list] := rfl
attribute [go_sem] Api_NamesA.enc_eta
/-! ### isochrone/static.one -/
def static_one (K : Nat) (p0 : ByteArray) : Option Api_NamesA := some (Api_NamesA.mk false [p0])
set_option maxHeartbeats 4000000 in
theorem static_one_ok {K : Nat} {p0 : ByteArray} {r : Api_NamesA} (h : static_one K p0 = some r) : Cn Tryz.prog 87 [.d (.val (.string p0))] (aggV r.enc) := by
 refine Cn.oz Tryz.func87 Tryz.call87 Tryz.ntmps87 Tryz.results87 fun hfit => ?_
 unfold static_one at h
 refine AW.kr [] [0] ?_
 refine AW.kr [0] [0, 2] ?_
 refine AW.ret ?_
 cases h; refine nz ?_; exact .same _
/-! ### isochrone/static.everything -/
def static_everything (K : Nat)  : Option Api_NamesA := some (Api_NamesA.mk true [])
set_option maxHeartbeats 4000000 in
theorem static_everything_ok {K : Nat}  {r : Api_NamesA} (h : static_everything K  = some r) : Cn Tryz.prog 89 [] (aggV r.enc) := by
 refine Cn.oz Tryz.func89 Tryz.call89 Tryz.ntmps89 Tryz.results89 fun hfit => ?_
 unfold static_everything at h
 refine AW.kr [] [] ?_
 refine AW.kr [0] [0] ?_
 refine AW.ret ?_
 cases h; refine nz ?_; exact .aggL ⟨.same _, .nil, trivial⟩
/-! ### isochrone/static.mix -/
def static_mix (K : Nat) (p0 : List ByteArray) (p1 : List ByteArray) (p2 : Bool) (p3 : Bool) (p4 : Bool) : Option (List ByteArray) := ((iter (S := Int × Int × (List ByteArray)) (R := (List ByteArray)) K (fun again (i1_0, i1_1, i1_2) =>
  ((
   ((
    if (decide (i1_0 < (p0.length : Int))) then
     some true
    else
     some (decide (i1_1 < (p1.length : Int)))) : Option Bool).bind (fun v7_0 =>
   if v7_0 then
    some (.go ())
   else
    outM (
     some i1_2))) : Option (Out Unit _)).bind (Out.fin fun _ =>
  ((
   if (i1_1 == (p1.length : Int)) then
    some true
   else
    if (decide (i1_0 < (p0.length : Int))) then
     (idx p0 i1_0).bind fun x15 =>
     (idx p1 i1_1).bind fun x17 =>
     some (Op.bytesLess x15.toList x17.toList)
    else
     some false) : Option Bool).bind (fun v11_0 =>
  if v11_0 then
   ((
    if p2 then
     (idx p0 i1_0).bind fun x23 =>
     (appO 16 i1_2 [x23]).bind fun l25 =>
     some l25
    else
     some i1_2) : Option (List ByteArray)).bind (fun v20_0 =>
   again (IntKind.wrap .i64 (i1_0 + (1 : Int)), i1_1, v20_0))
  else
   ((
    if (i1_0 == (p0.length : Int)) then
     some true
    else
     (idx p1 i1_1).bind fun x30 =>
     (idx p0 i1_0).bind fun x32 =>
     some (Op.bytesLess x30.toList x32.toList)) : Option Bool).bind (fun v27_0 =>
   if v27_0 then
    ((
     if p4 then
      (idx p1 i1_1).bind fun x38 =>
      (appO 16 i1_2 [x38]).bind fun l40 =>
      some l40
     else
      some i1_2) : Option (List ByteArray)).bind (fun v35_0 =>
    again (i1_0, IntKind.wrap .i64 (i1_1 + (1 : Int)), v35_0))
   else
    ((
     if p3 then
      (idx p0 i1_0).bind fun x45 =>
      (appO 16 i1_2 [x45]).bind fun l47 =>
      some l47
     else
      some i1_2) : Option (List ByteArray)).bind (fun v42_0 =>
    again (IntKind.wrap .i64 (i1_0 + (1 : Int)), IntKind.wrap .i64 (i1_1 + (1 : Int)), v42_0)))))) ((0 : Int), (0 : Int), [])) : Option (List ByteArray)).bind (fun e2_0 =>
 some e2_0)
set_option maxHeartbeats 4000000 in
theorem static_mix_ok {K : Nat} {p0 : List ByteArray} {p1 : List ByteArray} {p2 : Bool} {p3 : Bool} {p4 : Bool} {r : (List ByteArray)} (h : static_mix K p0 p1 p2 p3 p4 = some r) : Cn Tryz.prog 134 [.d (slD strV p0), .d (slD strV p1), .d (.val (.bool p2)), .d (.val (.bool p3)), .d (.val (.bool p4))] (.d (slD strV r)) := by
 refine Cn.oz Tryz.func134 Tryz.call134 Tryz.ntmps134 Tryz.results134 fun hfit => ?_
 unfold static_mix at h
 refine AW.kr [] [0, 1, 2, 3, 4] ?_
 refine AW.kr [] [0, 1, 2, 3, 4] ?_
 refine AW.ks [] [0, 1, 2, 3, 4, 11] ?_
 refine AW.one ?_
 refine AW.ro ?_
 refine AW.ks [] [0, 1, 2, 3, 4, 11, 12, 13] ?_
 refine AW.lm h (fun e2_0 => [(11, accV 0 1 ((e2_0.map strV).map (·.map .d)))]) (fun e2_0 => [accO 1 ((e2_0.map strV).map (·.map .d))]) (fun (i1_0, i1_1, i1_2) => [(0, vL strV p0), (1, vL strV p1), (2, vB p2), (3, vB p3), (4, vB p4), (11, accV 0 1 ((i1_2.map strV).map (·.map .d))), (12, vI i1_0), (13, vI i1_1)]) (fun (i1_0, i1_1, i1_2) => [accO 1 ((i1_2.map strV).map (·.map .d))]) [1000] (fun oJ4 again ⟨i1_0, i1_1, i1_2⟩ h => ?_) fun e2_0 h => ?_
 ·try dsimp only at h
  refine AW.jo h (fun _ => [(0, vL strV p0), (1, vL strV p1), (2, vB p2), (3, vB p3), (4, vB p4), (11, accV 0 1 ((i1_2.map strV).map (·.map .d))), (12, vI i1_0), (13, vI i1_1)]) (fun _ => [accO 1 ((i1_2.map strV).map (·.map .d))]) (fun oJ6 h hJ6 => ?_) fun ⟨⟩ h => ?_
  ·refine AW.jn h (fun v7_0 => [(0, vL strV p0), (1, vL strV p1), (2, vB p2), (3, vB p3), (4, vB p4), (11, accV 0 1 ((i1_2.map strV).map (·.map .d))), (12, vI i1_0), (13, vI i1_1), (23, vB v7_0)]) (fun v7_0 => [accO 1 ((i1_2.map strV).map (·.map .d))]) (fun oJ8 h => ?_) fun v7_0 h => ?_
   ·refine AW.rp ?_
    refine sK h (fun hb9 h => ?_) fun hb9 h => ?_
    ·exact ja [0] h
    exact ja [0] h
   refine AW.tt h (fun hb10 h => ?_) fun hb10 h => ?_
   ·refine AW.sk ?_
    exact jo [0] h
   refine AW.ex ?_
   have h := up h hJ6
   exact ja [0] h
  refine AW.block ?_
  refine AW.block ?_
  refine AW.jn h (fun v11_0 => [(0, vL strV p0), (1, vL strV p1), (2, vB p2), (3, vB p3), (4, vB p4), (11, accV 0 1 ((i1_2.map strV).map (·.map .d))), (12, vI i1_0), (13, vI i1_1), (36, vB v11_0)]) (fun v11_0 => [accO 1 ((i1_2.map strV).map (·.map .d))]) (fun oJ12 h => ?_) fun v11_0 h => ?_
  ·refine AW.rp ?_
   refine sK h (fun hb13 h => ?_) fun hb13 h => ?_
   ·exact ja [0] h
   refine sK h (fun hb14 h => ?_) fun hb14 h => ?_
   ·refine bx h fun x15 h0 h1 h => ?_
    refine bx h fun x17 h0 h1 h => ?_
    exact ja [0] h
   exact ja [0] h
  refine AW.tt h (fun hb19 h => ?_) fun hb19 h => ?_
  ·refine AW.jn h (fun v20_0 => [(0, vL strV p0), (1, vL strV p1), (2, vB p2), (3, vB p3), (4, vB p4), (11, accV 0 1 ((v20_0.map strV).map (·.map .d))), (12, vI i1_0), (13, vI i1_1)]) (fun v20_0 => [accO 1 ((v20_0.map strV).map (·.map .d))]) (fun oJ21 h => ?_) fun v20_0 h => ?_
   ·refine AW.ro ?_
    refine AW.ks [0] [0, 1, 2, 3, 4, 11, 12, 13, 58] ?_
    refine AW.tk h (fun hb22 h => ?_) fun hb22 h => ?_
    ·refine AW.rp ?_
     refine bx h fun x23 h0 h1 h => ?_
     refine ag (f := strV) h fun l25 hx26 h => ?_
     exact ja [7] h
    exact ja [0] h
   refine AW.rp ?_
   exact na [0] h
  refine AW.jn h (fun v27_0 => [(0, vL strV p0), (1, vL strV p1), (2, vB p2), (3, vB p3), (4, vB p4), (11, accV 0 1 ((i1_2.map strV).map (·.map .d))), (12, vI i1_0), (13, vI i1_1), (68, vB v27_0)]) (fun v27_0 => [accO 1 ((i1_2.map strV).map (·.map .d))]) (fun oJ28 h => ?_) fun v27_0 h => ?_
  ·refine AW.rp ?_
   refine sK h (fun hb29 h => ?_) fun hb29 h => ?_
   ·exact ja [0] h
   refine bx h fun x30 h0 h1 h => ?_
   refine bx h fun x32 h0 h1 h => ?_
   exact ja [0] h
  refine AW.tt h (fun hb34 h => ?_) fun hb34 h => ?_
  ·refine AW.jn h (fun v35_0 => [(0, vL strV p0), (1, vL strV p1), (2, vB p2), (3, vB p3), (4, vB p4), (11, accV 0 1 ((v35_0.map strV).map (·.map .d))), (12, vI i1_0), (13, vI i1_1)]) (fun v35_0 => [accO 1 ((v35_0.map strV).map (·.map .d))]) (fun oJ36 h => ?_) fun v35_0 h => ?_
   ·refine AW.ro ?_
    refine AW.ks [0] [0, 1, 2, 3, 4, 11, 12, 13, 84] ?_
    refine AW.tk h (fun hb37 h => ?_) fun hb37 h => ?_
    ·refine AW.rp ?_
     refine bx h fun x38 h0 h1 h => ?_
     refine ag (f := strV) h fun l40 hx41 h => ?_
     exact ja [7] h
    exact ja [0] h
   refine AW.rp ?_
   exact na [0] h
  refine AW.jn h (fun v42_0 => [(0, vL strV p0), (1, vL strV p1), (2, vB p2), (3, vB p3), (4, vB p4), (11, accV 0 1 ((v42_0.map strV).map (·.map .d))), (12, vI i1_0), (13, vI i1_1)]) (fun v42_0 => [accO 1 ((v42_0.map strV).map (·.map .d))]) (fun oJ43 h => ?_) fun v42_0 h => ?_
  ·refine AW.ro ?_
   refine AW.ks [0] [0, 1, 2, 3, 4, 11, 12, 13, 24] ?_
   refine AW.tk h (fun hb44 h => ?_) fun hb44 h => ?_
   ·refine AW.rp ?_
    refine bx h fun x45 h0 h1 h => ?_
    refine ag (f := strV) h fun l47 hx48 h => ?_
    exact ja [7] h
   exact ja [0] h
  refine AW.ro ?_
  refine AW.ks [0] [0, 1, 2, 3, 4, 11, 12, 13] ?_
  refine AW.rp ?_
  exact na [0] h
 refine AW.kr [0] [11] ?_
 refine AW.ret ?_
 cases h; refine nz ?_; exact sealAcc (by simp only [go_sem, reduceEqDiff, reduceAdd, reduceSub, reduceMul, reduceLeDiff, reduceLT, Nat.reduceBEq, reduceIte])
/-! ### isochrone/static.union -/
def static_union (K : Nat) (p0 : Api_NamesA) (p1 : Api_NamesA) : Option Api_NamesA := ((
  ((
   if p0.all then
    some p1.all
   else
    some false) : Option Bool).bind (fun v3_0 =>
  if v3_0 then
   (static_mix K p0.list p1.list false true false).bind fun r7 =>
   outM (
    some (Api_NamesA.mk true r7))
  else
   if p0.all then
    (static_mix K p0.list p1.list true false false).bind fun r10 =>
    outM (
     some (Api_NamesA.mk true r10))
   else
    if p1.all then
     (static_mix K p0.list p1.list false false true).bind fun r13 =>
     outM (
      some (Api_NamesA.mk true r13))
    else
     some (.go ()))) : Option (Out Unit _)).bind (Out.fin fun _ =>
 (static_mix K p0.list p1.list true true true).bind fun r15 =>
 some (Api_NamesA.mk false r15))
set_option maxHeartbeats 4000000 in
theorem static_union_ok {K : Nat} {p0 : Api_NamesA} {p1 : Api_NamesA} {r : Api_NamesA} (h : static_union K p0 p1 = some r) : Cn Tryz.prog 88 [aggV p0.enc, aggV p1.enc] (aggV r.enc) := by
 refine Cn.oz Tryz.func88 Tryz.call88 Tryz.ntmps88 Tryz.results88 fun hfit => ?_
 unfold static_union at h
 refine AW.kr [] [0, 1] ?_
 refine AW.ks [0, 1, 2] [2, 3, 4] ?_
 refine AW.jo h (fun _ => [(2, .ptr 0 2 0 0), (3, .ptr 1 2 0 0), (4, .ptr 2 2 0 0)]) (fun _ => [vE p0.enc, vE p1.enc, some ⟨2, [[vB false, .d (.val (.slice none 0 0))]]⟩]) (fun oJ2 h hJ2 => ?_) fun ⟨⟩ h => ?_
 ·refine AW.block ?_
  refine AW.jn h (fun v3_0 => [(2, .ptr 0 2 0 0), (3, .ptr 1 2 0 0), (4, .ptr 2 2 0 0), (5, vB v3_0)]) (fun v3_0 => [vE p0.enc, vE p1.enc, some ⟨2, [[vB false, .d (.val (.slice none 0 0))]]⟩]) (fun oJ4 h => ?_) fun v3_0 h => ?_
  ·refine AW.rp ?_
   refine sK h (fun hb5 h => ?_) fun hb5 h => ?_
   ·exact ja [0, 1, 2] h
   exact ja [0, 1, 2] h
  refine AW.tt h (fun hb6 h => ?_) fun hb6 h => ?_
  ·refine AW.ro ?_
   refine cm h static_mix_ok fun r7 hx8 h => ?_
   refine AW.ret ?_
   have h := up h hJ2
   cases h; refine nz ?_; exact .same _
  refine AW.ro ?_
  refine AW.ks [0, 1, 2] [2, 3, 4, 18] ?_
  refine AW.tt h (fun hb9 h => ?_) fun hb9 h => ?_
  ·refine AW.ro ?_
   refine cm h static_mix_ok fun r10 hx11 h => ?_
   refine AW.ret ?_
   have h := up h hJ2
   cases h; refine nz ?_; exact .same _
  refine AW.ro ?_
  refine AW.ks [0, 1, 2] [2, 3, 4, 27] ?_
  refine AW.tk h (fun hb12 h => ?_) fun hb12 h => ?_
  ·refine AW.ro ?_
   refine cm h static_mix_ok fun r13 hx14 h => ?_
   refine AW.ret ?_
   have h := up h hJ2
   cases h; refine nz ?_; exact .same _
  exact jo [0, 1, 2] h
 refine AW.ro ?_
 refine cm h static_mix_ok fun r15 hx16 h => ?_
 refine AW.ret ?_
 cases h; refine nz ?_; exact .same _
/-! ### isochrone/static.BoundOf -/
def static_BoundOf_body (K : Nat) (self52 : NodeA → Option Api_NamesA) (self90 : NodeA → Option Api_NamesA) (p0 : NodeA) : Option Api_NamesA := ((
  (tree_Sort K p0.op).bind fun r3 =>
  if (r3 == (1 : Int)) then
   outM (
    some (Api_NamesA.mk false []))
  else
   ((
    if (r3 == (3 : Int)) then
     some (r3 == (3 : Int))
    else
     some (r3 == (4 : Int))) : Option Bool).bind (fun v6_0 =>
   if v6_0 then
    ((
     if (p0.op == (50 : Int)) then
      some (p0.op == (50 : Int))
     else
      some (p0.op == (52 : Int))) : Option Bool).bind (fun v10_0 =>
    if v10_0 then
     (static_one K p0.name).bind fun r14 =>
     outM (
      some r14)
    else
     if (p0.op == (51 : Int)) then
      (catO p0.name (⟨#[39]⟩ : ByteArray)).bind fun s17 =>
      (static_one K s17).bind fun r19 =>
      outM (
       some r19)
     else
      if (p0.op == (53 : Int)) then
       outM (
        some (Api_NamesA.mk false []))
      else
       if (p0.op == (55 : Int)) then
        (static_one K p0.name).bind fun r23 =>
        (catO p0.name (⟨#[39]⟩ : ByteArray)).bind fun s25 =>
        (static_one K s25).bind fun r27 =>
        (static_union K r23 r27).bind fun r29 =>
        outM (
         some r29)
       else
        ((
         if (p0.op == (56 : Int)) then
          some (p0.op == (56 : Int))
         else
          if (p0.op == (61 : Int)) then
           some (p0.op == (61 : Int))
          else
           some (p0.op == (62 : Int))) : Option Bool).bind (fun v31_0 =>
        if v31_0 then
         (static_everything K ).bind fun r36 =>
         outM (
          some r36)
        else
         if (p0.op == (54 : Int)) then
          (cutL p0.kids none (some (IntKind.wrap .i64 ((p0.kids.length : Int) - (1 : Int))))).bind fun s39 =>
          ((iter (S := Int × Api_NamesA) (R := Api_NamesA) K (fun again (i45_0, i45_1) =>
           if (decide (i45_0 < (s39.length : Int))) then
            (idx s39 i45_0).bind fun x50 =>
            (self52 (x50)).bind fun r52 =>
            (static_union K i45_1 r52).bind fun r54 =>
            again (IntKind.wrap .i64 (i45_0 + (1 : Int)), r54)
           else
            some i45_1) ((0 : Int), (Api_NamesA.mk false []))) : Option Api_NamesA).bind (fun e46_0 =>
          outM (
           some e46_0))
         else
          some (.go ())))
   else
    some (.go ()))) : Option (Out Unit _)).bind (Out.fin fun _ =>
 (tree_Sort K p0.op).bind fun r56 =>
 if (r56 == (2 : Int)) then
  (self90 (p0)).bind fun r59 =>
  some r59
 else
  ((iter (S := Int × Api_NamesA) (R := Api_NamesA) K (fun again (i65_0, i65_1) =>
   if (decide (i65_0 < (p0.kids.length : Int))) then
    (idx p0.kids i65_0).bind fun x70 =>
    (self52 (x70)).bind fun r72 =>
    (static_union K i65_1 r72).bind fun r74 =>
    again (IntKind.wrap .i64 (i65_0 + (1 : Int)), r74)
   else
    some i65_1) ((0 : Int), (Api_NamesA.mk false []))) : Option Api_NamesA).bind (fun e66_0 =>
  some e66_0))
set_option maxHeartbeats 4000000 in
theorem static_BoundOf_step (K : Nat) (self52 : NodeA → Option Api_NamesA) (self90 : NodeA → Option Api_NamesA) (hself52 : ∀ (q : NodeA) (r : Api_NamesA), self52 q = some r → Cn Tryz.prog 52 [aggV q.enc] (aggV r.enc)) (hself90 : ∀ (q : NodeA) (r : Api_NamesA), self90 q = some r → Cn Tryz.prog 90 [aggV q.enc] (aggV r.enc)) (p0 : NodeA) (r : Api_NamesA) (h : static_BoundOf_body K self52 self90 p0 = some r) : Cn Tryz.prog 52 [aggV p0.enc] (aggV r.enc) := by
 refine Cn.oz Tryz.func52 Tryz.call52 Tryz.ntmps52 Tryz.results52 fun hfit => ?_
 unfold static_BoundOf_body at h
 refine AW.kr [] [0] ?_
 refine AW.kr [0, 1] [1, 2] ?_
 refine AW.ks [0, 1, 2] [1, 2, 3] ?_
 refine AW.jo h (fun _ => [(1, .ptr 0 6 0 0), (2, .ptr 1 2 0 0), (3, .ptr 2 2 0 0)]) (fun _ => [vE p0.enc, some ⟨2, [[vB false, .d (.val (.slice none 0 0))]]⟩, some ⟨2, [[vB false, .d (.val (.slice none 0 0))]]⟩]) (fun oJ2 h hJ2 => ?_) fun ⟨⟩ h => ?_
 ·refine AW.ro ?_
  refine cm h tree_Sort_ok fun r3 hx4 h => ?_
  refine AW.ks [0, 1, 2] [1, 2, 3, 10] ?_
  refine AW.block ?_
  refine AW.ro ?_
  refine AW.ks [0, 1, 2] [1, 2, 3, 10, 11] ?_
  refine AW.tt h (fun hb5 h => ?_) fun hb5 h => ?_
  ·refine AW.ro ?_
   refine AW.ret ?_
   have h := up h hJ2
   cases h; refine nz ?_; exact .aggL ⟨.same _, .nil, trivial⟩
  refine AW.jn h (fun v6_0 => [(1, .ptr 0 6 0 0), (2, .ptr 1 2 0 0), (3, .ptr 2 2 0 0), (14, vB v6_0)]) (fun v6_0 => [vE p0.enc, some ⟨2, [[vB false, .d (.val (.slice none 0 0))]]⟩, some ⟨2, [[vB false, .d (.val (.slice none 0 0))]]⟩]) (fun oJ7 h => ?_) fun v6_0 h => ?_
  ·refine AW.ro ?_
   refine AW.ks [0, 1, 2] [1, 2, 3, 10, 14] ?_
   refine AW.tt h (fun hb8 h => ?_) fun hb8 h => ?_
   ·refine AW.sk ?_
    exact ja [0, 1, 2] h
   refine AW.rp ?_
   exact ja [0, 1, 2] h
  refine AW.tk h (fun hb9 h => ?_) fun hb9 h => ?_
  ·refine AW.ro ?_
   refine AW.ks [0, 1, 2] [1, 2, 3, 18] ?_
   refine AW.block ?_
   refine AW.jn h (fun v10_0 => [(1, .ptr 0 6 0 0), (2, .ptr 1 2 0 0), (3, .ptr 2 2 0 0), (18, vI p0.op), (19, vB v10_0)]) (fun v10_0 => [vE p0.enc, some ⟨2, [[vB false, .d (.val (.slice none 0 0))]]⟩, some ⟨2, [[vB false, .d (.val (.slice none 0 0))]]⟩]) (fun oJ11 h => ?_) fun v10_0 h => ?_
   ·refine AW.ro ?_
    refine AW.ks [0, 1, 2] [1, 2, 3, 18, 19] ?_
    refine AW.tt h (fun hb12 h => ?_) fun hb12 h => ?_
    ·refine AW.sk ?_
     exact ja [0, 1, 2] h
    refine AW.rp ?_
    exact ja [0, 1, 2] h
   refine AW.tt h (fun hb13 h => ?_) fun hb13 h => ?_
   ·refine AW.ro ?_
    refine cm h static_one_ok fun r14 hx15 h => ?_
    refine AW.ret ?_
    have h := up h hJ2
    cases h; refine nz ?_; exact .same _
   refine AW.ro ?_
   refine AW.ks [0, 1, 2] [1, 2, 3, 18, 25] ?_
   refine AW.tt h (fun hb16 h => ?_) fun hb16 h => ?_
   ·refine AW.ro ?_
    apply bE h; intro s17 hx18 h; have hx18 := bt hx18; refine ns ?_
    refine cm h static_one_ok fun r19 hx20 h => ?_
    refine AW.ret ?_
    have h := up h hJ2
    cases h; refine nz ?_; exact .same _
   refine AW.ro ?_
   refine AW.ks [0, 1, 2] [1, 2, 3, 18, 31] ?_
   refine AW.tt h (fun hb21 h => ?_) fun hb21 h => ?_
   ·refine AW.ro ?_
    refine AW.ret ?_
    have h := up h hJ2
    cases h; refine nz ?_; exact .aggL ⟨.same _, .nil, trivial⟩
   refine AW.ro ?_
   refine AW.ks [0, 1, 2] [1, 2, 3, 18, 34] ?_
   refine AW.tt h (fun hb22 h => ?_) fun hb22 h => ?_
   ·refine AW.ro ?_
    refine pm h static_one_ok fun r23 hx24 h => ?_
    apply bE h; intro s25 hx26 h; have hx26 := bt hx26; refine ns ?_
    refine pm h static_one_ok fun r27 hx28 h => ?_
    refine pm h static_union_ok fun r29 hx30 h => ?_
    refine AW.ret ?_
    have h := up h hJ2
    cases h; refine nz ?_; exact .same _
   refine AW.jn h (fun v31_0 => [(1, .ptr 0 6 0 0), (2, .ptr 1 2 0 0), (3, .ptr 2 2 0 0), (18, vI p0.op), (44, vB v31_0)]) (fun v31_0 => [vE p0.enc, some ⟨2, [[vB false, .d (.val (.slice none 0 0))]]⟩, some ⟨2, [[vB false, .d (.val (.slice none 0 0))]]⟩]) (fun oJ32 h => ?_) fun v31_0 h => ?_
   ·refine AW.ro ?_
    refine AW.ks [0, 1, 2] [1, 2, 3, 18, 44] ?_
    refine AW.tt h (fun hb33 h => ?_) fun hb33 h => ?_
    ·refine AW.sk ?_
     exact ja [0, 1, 2] h
    refine AW.ro ?_
    refine AW.ks [0, 1, 2] [1, 2, 3, 18, 44] ?_
    refine AW.tt h (fun hb34 h => ?_) fun hb34 h => ?_
    ·refine AW.sk ?_
     exact ja [0, 1, 2] h
    refine AW.rp ?_
    exact ja [0, 1, 2] h
   refine AW.tt h (fun hb35 h => ?_) fun hb35 h => ?_
   ·refine AW.ro ?_
    refine cm h static_everything_ok fun r36 hx37 h => ?_
    refine AW.ret ?_
    have h := up h hJ2
    cases h; refine nz ?_; exact .same _
   refine AW.ro ?_
   refine AW.ks [0, 1, 2] [1, 2, 3, 49] ?_
   refine AW.tk h (fun hb38 h => ?_) fun hb38 h => ?_
   ·refine AW.one ?_
    refine AW.ro ?_
    refine bb h fun s39 hx40 h => ?_
    refine AW.ks [1, 2] [2, 3, 57, 58, 59] ?_
    refine AW.cutS [0, 1] [] [] [(1, ⟨2, [[.d (.val (.bool false)), .d (slD strV [])]]⟩)] [(2, .ptr 0 2 0 0), (3, .ptr 1 2 0 0), (57, vL NodeA.enc s39), (58, vI (s39.length : Int)), (59, vI (0 : Int))] [some ⟨2, [[vB false, .d (.val (.slice none 0 0))]]⟩, some ⟨2, [[vB false, vL strV []]]⟩] (by simp only [go_sem, reduceEqDiff, reduceAdd, reduceSub, reduceMul, reduceLeDiff, reduceLT, Nat.reduceBEq, reduceIte, sealL_cons, sealL_nil]) (by simp only [go_sem, reduceEqDiff, reduceAdd, reduceSub, reduceMul, reduceLeDiff, reduceLT, Nat.reduceBEq, reduceIte, sealH_cons, sealH_nil]; exact ⟨⟨.same _, .nil, trivial⟩, trivial⟩) (by simp only [go_sem, reduceEqDiff, reduceAdd, reduceSub, reduceMul, reduceLeDiff, reduceLT, Nat.reduceBEq, reduceIte]) ?_
    refine AW.lm h (fun e46_0 => [(2, .ptr 0 2 0 0), (3, .ptr 1 2 0 0)]) (fun e46_0 => [some ⟨2, [[vB false, .d (.val (.slice none 0 0))]]⟩, vE e46_0.enc]) (fun (i45_0, i45_1) => [(2, .ptr 0 2 0 0), (3, .ptr 1 2 0 0), (57, vL NodeA.enc s39), (58, vI (s39.length : Int)), (59, vI i45_0)]) (fun (i45_0, i45_1) => [some ⟨2, [[vB false, .d (.val (.slice none 0 0))]]⟩, vE i45_1.enc]) [0, 1] (fun oJ48 again ⟨i45_0, i45_1⟩ h => ?_) fun e46_0 h => ?_
    ·try dsimp only at h
     refine AW.ro ?_
     refine AW.ks [0, 1] [2, 3, 57, 58, 59, 60] ?_
     refine AW.one ?_
     refine AW.tt h (fun hb49 h => ?_) fun hb49 h => ?_
     ·refine AW.sk ?_
      refine AW.ks [0, 1] [2, 3, 57, 58, 59] ?_
      refine AW.one ?_
      refine AW.block ?_
      refine AW.ro ?_
      refine bx h fun x50 h0 h1 h => ?_
      refine AW.ks [0, 1, 4] [2, 3, 5, 57, 58, 59] ?_
      refine AW.rp ?_
      refine pm h (hself52 _ _) fun r52 hx53 h => ?_
      refine pm h static_union_ok fun r54 hx55 h => ?_
      refine AW.ks [0, 1] [2, 3, 57, 58, 59] ?_
      refine AW.rp ?_
      exact na [0, 1] h
     refine AW.ex ?_
     exact ja [0, 1] h
    refine AW.kr [0, 1] [2, 3] ?_
    refine AW.ret ?_
    have h := up h hJ2
    cases h; refine nz ?_; exact .same _
   exact jo [0, 1, 2] h
  exact jo [0, 1, 2] h
 refine AW.one ?_
 refine AW.ro ?_
 refine cm h tree_Sort_ok fun r56 hx57 h => ?_
 refine AW.ks [0, 1, 2] [1, 2, 3, 72] ?_
 refine AW.tk h (fun hb58 h => ?_) fun hb58 h => ?_
 ·refine AW.ro ?_
  refine cm h (hself90 _ _) fun r59 hx60 h => ?_
  refine AW.ret ?_
  cases h; refine nz ?_; exact .same _
 refine AW.ks [0, 1, 2] [1, 2, 3] ?_
 refine AW.one ?_
 refine AW.ro ?_
 refine AW.ks [1, 2] [2, 3, 76, 77, 78] ?_
 refine AW.cutS [0, 1] [] [] [(1, ⟨2, [[.d (.val (.bool false)), .d (slD strV [])]]⟩)] [(2, .ptr 0 2 0 0), (3, .ptr 1 2 0 0), (76, vL NodeA.enc p0.kids), (77, vI (p0.kids.length : Int)), (78, vI (0 : Int))] [some ⟨2, [[vB false, .d (.val (.slice none 0 0))]]⟩, some ⟨2, [[vB false, vL strV []]]⟩] (by simp only [go_sem, reduceEqDiff, reduceAdd, reduceSub, reduceMul, reduceLeDiff, reduceLT, Nat.reduceBEq, reduceIte, sealL_cons, sealL_nil]) (by simp only [go_sem, reduceEqDiff, reduceAdd, reduceSub, reduceMul, reduceLeDiff, reduceLT, Nat.reduceBEq, reduceIte, sealH_cons, sealH_nil]; exact ⟨⟨.same _, .nil, trivial⟩, trivial⟩) (by simp only [go_sem, reduceEqDiff, reduceAdd, reduceSub, reduceMul, reduceLeDiff, reduceLT, Nat.reduceBEq, reduceIte]) ?_
 refine AW.lm h (fun e66_0 => [(2, .ptr 0 2 0 0), (3, .ptr 1 2 0 0)]) (fun e66_0 => [some ⟨2, [[vB false, .d (.val (.slice none 0 0))]]⟩, vE e66_0.enc]) (fun (i65_0, i65_1) => [(2, .ptr 0 2 0 0), (3, .ptr 1 2 0 0), (76, vL NodeA.enc p0.kids), (77, vI (p0.kids.length : Int)), (78, vI i65_0)]) (fun (i65_0, i65_1) => [some ⟨2, [[vB false, .d (.val (.slice none 0 0))]]⟩, vE i65_1.enc]) [0, 1] (fun oJ68 again ⟨i65_0, i65_1⟩ h => ?_) fun e66_0 h => ?_
 ·try dsimp only at h
  refine AW.ro ?_
  refine AW.ks [0, 1] [2, 3, 76, 77, 78, 79] ?_
  refine AW.one ?_
  refine AW.tt h (fun hb69 h => ?_) fun hb69 h => ?_
  ·refine AW.sk ?_
   refine AW.ks [0, 1] [2, 3, 76, 77, 78] ?_
   refine AW.one ?_
   refine AW.block ?_
   refine AW.ro ?_
   refine bx h fun x70 h0 h1 h => ?_
   refine AW.ks [0, 1, 4] [2, 3, 7, 76, 77, 78] ?_
   refine AW.rp ?_
   refine pm h (hself52 _ _) fun r72 hx73 h => ?_
   refine pm h static_union_ok fun r74 hx75 h => ?_
   refine AW.ks [0, 1] [2, 3, 76, 77, 78] ?_
   refine AW.rp ?_
   exact na [0, 1] h
  refine AW.ex ?_
  exact ja [0, 1] h
 refine AW.kr [0, 1] [2, 3] ?_
 refine AW.ret ?_
 cases h; refine nz ?_; exact .same _
/-! ### isochrone/static.everywhere -/
def static_everywhere_body (K : Nat) (self52 : NodeA → Option Api_NamesA) (self90 : NodeA → Option Api_NamesA) (p0 : NodeA) : Option Api_NamesA := ((
  ((
   if (p0.op == (33 : Int)) then
    some true
   else
    some (p0.op == (34 : Int))) : Option Bool).bind (fun v3_0 =>
  if v3_0 then
   (static_one K p0.name).bind fun r7 =>
   some (r7.all, r7.list)
  else
   (tree_Sort K p0.op).bind fun r9 =>
   if (decide ((3 : Int) ≤ r9)) then
    (self52 (p0)).bind fun r12 =>
    some (r12.all, r12.list)
   else
    some (false, []))) : Option (Bool × (List ByteArray))).bind (fun (v1_0, v1_1) =>
 ((iter (S := Int × Api_NamesA) (R := Api_NamesA) K (fun again (i14_0, i14_1) =>
  if (decide (i14_0 < (p0.kids.length : Int))) then
   (idx p0.kids i14_0).bind fun x19 =>
   (self90 (x19)).bind fun r21 =>
   (static_union K i14_1 r21).bind fun r23 =>
   again (IntKind.wrap .i64 (i14_0 + (1 : Int)), r23)
  else
   some i14_1) ((0 : Int), (Api_NamesA.mk v1_0 v1_1))) : Option Api_NamesA).bind (fun e15_0 =>
 some e15_0))
set_option maxHeartbeats 4000000 in
theorem static_everywhere_step (K : Nat) (self52 : NodeA → Option Api_NamesA) (self90 : NodeA → Option Api_NamesA) (hself52 : ∀ (q : NodeA) (r : Api_NamesA), self52 q = some r → Cn Tryz.prog 52 [aggV q.enc] (aggV r.enc)) (hself90 : ∀ (q : NodeA) (r : Api_NamesA), self90 q = some r → Cn Tryz.prog 90 [aggV q.enc] (aggV r.enc)) (p0 : NodeA) (r : Api_NamesA) (h : static_everywhere_body K self52 self90 p0 = some r) : Cn Tryz.prog 90 [aggV p0.enc] (aggV r.enc) := by
 refine Cn.oz Tryz.func90 Tryz.call90 Tryz.ntmps90 Tryz.results90 fun hfit => ?_
 unfold static_everywhere_body at h
 refine AW.kr [] [0] ?_
 refine AW.kr [0, 1] [1, 2] ?_
 refine AW.ks [0, 1, 2] [1, 2, 3] ?_
 refine AW.jn h (fun (v1_0, v1_1) => [(1, .ptr 0 6 0 0), (2, .ptr 1 2 0 0), (3, .ptr 2 2 0 0)]) (fun (v1_0, v1_1) => [vE p0.enc, some ⟨2, [[vB false, .d (.val (.slice none 0 0))]]⟩, some ⟨2, [[vB v1_0, vL strV v1_1]]⟩]) (fun oJ2 h => ?_) fun ⟨v1_0, v1_1⟩ h => ?_
 ·refine AW.block ?_
  refine AW.jn h (fun v3_0 => [(1, .ptr 0 6 0 0), (2, .ptr 1 2 0 0), (3, .ptr 2 2 0 0), (6, vB v3_0)]) (fun v3_0 => [vE p0.enc, some ⟨2, [[vB false, .d (.val (.slice none 0 0))]]⟩, some ⟨2, [[vB false, .d (.val (.slice none 0 0))]]⟩]) (fun oJ4 h => ?_) fun v3_0 h => ?_
  ·refine AW.rp ?_
   refine sK h (fun hb5 h => ?_) fun hb5 h => ?_
   ·exact ja [0, 1, 2] h
   exact ja [0, 1, 2] h
  refine AW.tt h (fun hb6 h => ?_) fun hb6 h => ?_
  ·refine AW.rp ?_
   refine cm h static_one_ok fun r7 hx8 h => ?_
   exact ja [0, 1, 2] h
  refine AW.ro ?_
  refine cm h tree_Sort_ok fun r9 hx10 h => ?_
  refine AW.ks [0, 1, 2] [1, 2, 3, 18] ?_
  refine AW.tk h (fun hb11 h => ?_) fun hb11 h => ?_
  ·refine AW.rp ?_
   refine cm h (hself52 _ _) fun r12 hx13 h => ?_
   exact ja [0, 1, 2] h
  refine JoinQ.mkS (false, []) [0, 1, 2] [] [] [(2, ⟨2, [[.d (.val (.bool false)), .d (slD strV [])]]⟩)] (Option.some.inj h) (by simp only [go_sem, reduceEqDiff, reduceAdd, reduceSub, reduceMul, reduceLeDiff, reduceLT, Nat.reduceBEq, reduceIte, sealL_cons, sealL_nil]) (by simp only [go_sem, reduceEqDiff, reduceAdd, reduceSub, reduceMul, reduceLeDiff, reduceLT, Nat.reduceBEq, reduceIte, sealH_cons, sealH_nil]; exact ⟨⟨.same _, .nil, trivial⟩, trivial⟩) (by simp only [go_sem, reduceEqDiff, reduceAdd, reduceSub, reduceMul, reduceLeDiff, reduceLT, Nat.reduceBEq, reduceIte])
 try dsimp only at h
 refine AW.one ?_
 refine AW.ro ?_
 refine AW.ks [1, 2] [2, 3, 26, 27, 28] ?_
 refine AW.lm h (fun e15_0 => [(2, .ptr 0 2 0 0), (3, .ptr 1 2 0 0)]) (fun e15_0 => [some ⟨2, [[vB false, .d (.val (.slice none 0 0))]]⟩, vE e15_0.enc]) (fun (i14_0, i14_1) => [(2, .ptr 0 2 0 0), (3, .ptr 1 2 0 0), (26, vL NodeA.enc p0.kids), (27, vI (p0.kids.length : Int)), (28, vI i14_0)]) (fun (i14_0, i14_1) => [some ⟨2, [[vB false, .d (.val (.slice none 0 0))]]⟩, vE i14_1.enc]) [0, 1] (fun oJ17 again ⟨i14_0, i14_1⟩ h => ?_) fun e15_0 h => ?_
 ·try dsimp only at h
  refine AW.ro ?_
  refine AW.ks [0, 1] [2, 3, 26, 27, 28, 29] ?_
  refine AW.one ?_
  refine AW.tt h (fun hb18 h => ?_) fun hb18 h => ?_
  ·refine AW.sk ?_
   refine AW.ks [0, 1] [2, 3, 26, 27, 28] ?_
   refine AW.one ?_
   refine AW.block ?_
   refine AW.ro ?_
   refine bx h fun x19 h0 h1 h => ?_
   refine AW.ks [0, 1, 4] [2, 3, 5, 26, 27, 28] ?_
   refine AW.rp ?_
   refine pm h (hself90 _ _) fun r21 hx22 h => ?_
   refine pm h static_union_ok fun r23 hx24 h => ?_
   refine AW.ks [0, 1] [2, 3, 26, 27, 28] ?_
   refine AW.rp ?_
   exact na [0, 1] h
  refine AW.ex ?_
  exact ja [0, 1] h
 refine AW.kr [0, 1] [2, 3] ?_
 refine AW.ret ?_
 cases h; refine nz ?_; exact .same _
def grp_static_BoundOf (K : Nat) : Nat → (NodeA → Option Api_NamesA) × (NodeA → Option Api_NamesA)
 | 0 => (fun _ => none, fun _ => none)
 | k + 1 => (fun q => static_BoundOf_body K (grp_static_BoundOf K k).1 (grp_static_BoundOf K k).2 q, fun q => static_everywhere_body K (grp_static_BoundOf K k).1 (grp_static_BoundOf K k).2 q)
def static_BoundOf (K : Nat) (p0 : NodeA) : Option Api_NamesA := (grp_static_BoundOf K K).1 p0
theorem key_static_BoundOf {K : Nat} (k : Nat) : (∀ (q : NodeA) (r : Api_NamesA), (grp_static_BoundOf K k).1 q = some r → Cn Tryz.prog 52 [aggV q.enc] (aggV r.enc)) ∧ (∀ (q : NodeA) (r : Api_NamesA), (grp_static_BoundOf K k).2 q = some r → Cn Tryz.prog 90 [aggV q.enc] (aggV r.enc)) := by
 induction k with
 | zero => exact ⟨(fun q r h => nomatch (show (none : Option _) = some r from h)), (fun q r h => nomatch (show (none : Option _) = some r from h))⟩
 | succ k ih => exact ⟨fun q r h => static_BoundOf_step K _ _ ih.1 ih.2 q r h, fun q r h => static_everywhere_step K _ _ ih.1 ih.2 q r h⟩
theorem static_BoundOf_ok {K : Nat} {p0 : NodeA} {r : Api_NamesA} (h : static_BoundOf K p0 = some r) : Cn Tryz.prog 52 [aggV p0.enc] (aggV r.enc) := (key_static_BoundOf K).1 p0 r h
/-! ### isochrone/static.not -/
def static_not (K : Nat) (p0 : Api_NamesA) : Option Api_NamesA := some (Api_NamesA.mk (!p0.all) p0.list)
set_option maxHeartbeats 4000000 in
theorem static_not_ok {K : Nat} {p0 : Api_NamesA} {r : Api_NamesA} (h : static_not K p0 = some r) : Cn Tryz.prog 137 [aggV p0.enc] (aggV r.enc) := by
 refine Cn.oz Tryz.func137 Tryz.call137 Tryz.ntmps137 Tryz.results137 fun hfit => ?_
 unfold static_not at h
 refine AW.kr [] [0] ?_
 refine AW.kr [0, 1] [1, 2] ?_
 refine AW.ret ?_
 cases h; refine nz ?_; exact .same _
/-! ### isochrone/static.meet -/
def static_meet (K : Nat) (p0 : Api_NamesA) (p1 : Api_NamesA) : Option Api_NamesA := (static_not K p0).bind fun r1 =>
 (static_not K p1).bind fun r3 =>
 (static_union K r1 r3).bind fun r5 =>
 (static_not K r5).bind fun r7 =>
 some r7
set_option maxHeartbeats 4000000 in
theorem static_meet_ok {K : Nat} {p0 : Api_NamesA} {p1 : Api_NamesA} {r : Api_NamesA} (h : static_meet K p0 p1 = some r) : Cn Tryz.prog 136 [aggV p0.enc, aggV p1.enc] (aggV r.enc) := by
 refine Cn.oz Tryz.func136 Tryz.call136 Tryz.ntmps136 Tryz.results136 fun hfit => ?_
 unfold static_meet at h
 refine AW.kr [] [0, 1] ?_
 refine AW.kr [0, 1, 2] [2, 3, 4] ?_
 refine pm h static_not_ok fun r1 hx2 h => ?_
 refine pm h static_not_ok fun r3 hx4 h => ?_
 refine pm h static_union_ok fun r5 hx6 h => ?_
 refine pm h static_not_ok fun r7 hx8 h => ?_
 refine AW.ret ?_
 cases h; refine nz ?_; exact .same _
/-! ### isochrone/static.MustOf -/
def static_MustOf_body (K : Nat) (self94 : NodeA → Option Api_NamesA) (p0 : NodeA) : Option Api_NamesA := ((
  ((
   if (p0.op == (50 : Int)) then
    some (p0.op == (50 : Int))
   else
    if (p0.op == (52 : Int)) then
     some (p0.op == (52 : Int))
    else
     some (p0.op == (51 : Int))) : Option Bool).bind (fun v3_0 =>
  if v3_0 then
   (static_BoundOf K p0).bind fun r8 =>
   outM (
    some r8)
  else
   if (p0.op == (54 : Int)) then
    ((iter (S := Int × Api_NamesA) (R := Api_NamesA) K (fun again (i15_0, i15_1) =>
     if (decide (i15_0 < (p0.kids.length : Int))) then
      ((
       (idx p0.kids i15_0).bind fun x22 =>
       if (x22.op == (55 : Int)) then
        (static_BoundOf K x22).bind fun r25 =>
        (static_union K i15_1 r25).bind fun r27 =>
        some r27
       else
        some i15_1) : Option Api_NamesA).bind (fun v20_0 =>
      again (IntKind.wrap .i64 (i15_0 + (1 : Int)), v20_0))
     else
      some i15_1) ((0 : Int), (Api_NamesA.mk false []))) : Option Api_NamesA).bind (fun e16_0 =>
    some (.go (e16_0.all, e16_0.list)))
   else
    if (p0.op == (57 : Int)) then
     (idx p0.kids (0 : Int)).bind fun x30 =>
     (self94 (x30)).bind fun r32 =>
     (idx p0.kids (1 : Int)).bind fun x34 =>
     (self94 (x34)).bind fun r36 =>
     (static_union K r32 r36).bind fun r38 =>
     outM (
      some r38)
    else
     if (p0.op == (58 : Int)) then
      (idx p0.kids (0 : Int)).bind fun x41 =>
      (self94 (x41)).bind fun r43 =>
      (idx p0.kids (1 : Int)).bind fun x45 =>
      (self94 (x45)).bind fun r47 =>
      (static_meet K r43 r47).bind fun r49 =>
      outM (
       some r49)
     else
      if (p0.op == (60 : Int)) then
       (idx p0.kids (0 : Int)).bind fun x52 =>
       (self94 (x52)).bind fun r54 =>
       outM (
        some r54)
      else
       some (.go (false, [])))) : Option (Out (Bool × (List ByteArray)) _)).bind (Out.fin fun (v1_0, v1_1) =>
 some (Api_NamesA.mk v1_0 v1_1))
set_option maxHeartbeats 4000000 in
theorem static_MustOf_step (K : Nat) (self94 : NodeA → Option Api_NamesA) (hself94 : ∀ (q : NodeA) (r : Api_NamesA), self94 q = some r → Cn Tryz.prog 94 [aggV q.enc] (aggV r.enc)) (p0 : NodeA) (r : Api_NamesA) (h : static_MustOf_body K self94 p0 = some r) : Cn Tryz.prog 94 [aggV p0.enc] (aggV r.enc) := by
 refine Cn.oz Tryz.func94 Tryz.call94 Tryz.ntmps94 Tryz.results94 fun hfit => ?_
 unfold static_MustOf_body at h
 refine AW.kr [] [0] ?_
 refine AW.kr [0, 1] [1, 2] ?_
 refine AW.ks [0, 1, 2] [1, 2, 3] ?_
 refine AW.jo h (fun (v1_0, v1_1) => [(2, .ptr 0 2 0 0), (3, .ptr 1 2 0 0)]) (fun (v1_0, v1_1) => [some ⟨2, [[vB false, .d (.val (.slice none 0 0))]]⟩, some ⟨2, [[vB v1_0, vL strV v1_1]]⟩]) (fun oJ2 h hJ2 => ?_) fun ⟨v1_0, v1_1⟩ h => ?_
 ·refine AW.ro ?_
  refine AW.ks [0, 1, 2] [1, 2, 3, 7] ?_
  refine AW.block ?_
  refine AW.jn h (fun v3_0 => [(1, .ptr 0 6 0 0), (2, .ptr 1 2 0 0), (3, .ptr 2 2 0 0), (7, vI p0.op), (8, vB v3_0)]) (fun v3_0 => [vE p0.enc, some ⟨2, [[vB false, .d (.val (.slice none 0 0))]]⟩, some ⟨2, [[vB false, .d (.val (.slice none 0 0))]]⟩]) (fun oJ4 h => ?_) fun v3_0 h => ?_
  ·refine AW.ro ?_
   refine AW.ks [0, 1, 2] [1, 2, 3, 7, 8] ?_
   refine AW.tt h (fun hb5 h => ?_) fun hb5 h => ?_
   ·refine AW.sk ?_
    exact ja [0, 1, 2] h
   refine AW.ro ?_
   refine AW.ks [0, 1, 2] [1, 2, 3, 7, 8] ?_
   refine AW.tt h (fun hb6 h => ?_) fun hb6 h => ?_
   ·refine AW.sk ?_
    exact ja [0, 1, 2] h
   refine AW.rp ?_
   exact ja [0, 1, 2] h
  refine AW.tt h (fun hb7 h => ?_) fun hb7 h => ?_
  ·refine AW.ro ?_
   refine cm h static_BoundOf_ok fun r8 hx9 h => ?_
   refine AW.ret ?_
   have h := up h hJ2
   cases h; refine nz ?_; exact .same _
  refine AW.ro ?_
  refine AW.ks [0, 1, 2] [1, 2, 3, 7, 14] ?_
  refine AW.tt h (fun hb10 h => ?_) fun hb10 h => ?_
  ·refine AW.ro ?_
   refine AW.ks [1, 2] [2, 3, 17, 18, 19] ?_
   refine AW.cutS [0, 1] [] [] [(1, ⟨2, [[.d (.val (.bool false)), .d (slD strV [])]]⟩)] [(2, .ptr 0 2 0 0), (3, .ptr 1 2 0 0), (17, vL NodeA.enc p0.kids), (18, vI (p0.kids.length : Int)), (19, vI (0 : Int))] [some ⟨2, [[vB false, .d (.val (.slice none 0 0))]]⟩, some ⟨2, [[vB false, vL strV []]]⟩] (by simp only [go_sem, reduceEqDiff, reduceAdd, reduceSub, reduceMul, reduceLeDiff, reduceLT, Nat.reduceBEq, reduceIte, sealL_cons, sealL_nil]) (by simp only [go_sem, reduceEqDiff, reduceAdd, reduceSub, reduceMul, reduceLeDiff, reduceLT, Nat.reduceBEq, reduceIte, sealH_cons, sealH_nil]; exact ⟨⟨.same _, .nil, trivial⟩, trivial⟩) (by simp only [go_sem, reduceEqDiff, reduceAdd, reduceSub, reduceMul, reduceLeDiff, reduceLT, Nat.reduceBEq, reduceIte]) ?_
   refine AW.lm h (fun e16_0 => [(2, .ptr 0 2 0 0), (3, .ptr 1 2 0 0)]) (fun e16_0 => [some ⟨2, [[vB false, .d (.val (.slice none 0 0))]]⟩, vE e16_0.enc]) (fun (i15_0, i15_1) => [(2, .ptr 0 2 0 0), (3, .ptr 1 2 0 0), (17, vL NodeA.enc p0.kids), (18, vI (p0.kids.length : Int)), (19, vI i15_0)]) (fun (i15_0, i15_1) => [some ⟨2, [[vB false, .d (.val (.slice none 0 0))]]⟩, vE i15_1.enc]) [0, 1] (fun oJ18 again ⟨i15_0, i15_1⟩ h => ?_) fun e16_0 h => ?_
   ·try dsimp only at h
    refine AW.ro ?_
    refine AW.ks [0, 1] [2, 3, 17, 18, 19, 20] ?_
    refine AW.one ?_
    refine AW.tt h (fun hb19 h => ?_) fun hb19 h => ?_
    ·refine AW.sk ?_
     refine AW.ks [0, 1] [2, 3, 17, 18, 19] ?_
     refine AW.jn h (fun v20_0 => [(2, .ptr 0 2 0 0), (3, .ptr 1 2 0 0), (17, vL NodeA.enc p0.kids), (18, vI (p0.kids.length : Int)), (19, vI i15_0)]) (fun v20_0 => [some ⟨2, [[vB false, .d (.val (.slice none 0 0))]]⟩, vE v20_0.enc]) (fun oJ21 h => ?_) fun v20_0 h => ?_
     ·refine AW.block ?_
      refine AW.ro ?_
      refine bx h fun x22 h0 h1 h => ?_
      refine AW.kr [0, 1, 4] [2, 3, 5, 17, 18, 19] ?_
      refine AW.ks [0, 1, 2] [2, 3, 5, 17, 18, 19, 25] ?_
      refine AW.tk h (fun hb24 h => ?_) fun hb24 h => ?_
      ·refine AW.rp ?_
       refine pm h static_BoundOf_ok fun r25 hx26 h => ?_
       refine pm h static_union_ok fun r27 hx28 h => ?_
       exact ja [0, 1] h
      exact ja [0, 1] h
     refine AW.rp ?_
     exact na [0, 1] h
    refine AW.ex ?_
    exact ja [0, 1] h
   exact jo [0, 1] h
  refine AW.ro ?_
  refine AW.ks [0, 1, 2] [1, 2, 3, 7, 31] ?_
  refine AW.tt h (fun hb29 h => ?_) fun hb29 h => ?_
  ·refine AW.ro ?_
   refine bx h fun x30 h0 h1 h => ?_
   refine pm h (hself94 _ _) fun r32 hx33 h => ?_
   refine bx h fun x34 h0 h1 h => ?_
   refine pm h (hself94 _ _) fun r36 hx37 h => ?_
   refine pm h static_union_ok fun r38 hx39 h => ?_
   refine AW.ret ?_
   have h := up h hJ2
   cases h; refine nz ?_; exact .same _
  refine AW.ro ?_
  refine AW.ks [0, 1, 2] [1, 2, 3, 7, 44] ?_
  refine AW.tt h (fun hb40 h => ?_) fun hb40 h => ?_
  ·refine AW.ro ?_
   refine bx h fun x41 h0 h1 h => ?_
   refine pm h (hself94 _ _) fun r43 hx44 h => ?_
   refine bx h fun x45 h0 h1 h => ?_
   refine pm h (hself94 _ _) fun r47 hx48 h => ?_
   refine pm h static_meet_ok fun r49 hx50 h => ?_
   refine AW.ret ?_
   have h := up h hJ2
   cases h; refine nz ?_; exact .same _
  refine AW.ro ?_
  refine AW.ks [0, 1, 2] [1, 2, 3, 57] ?_
  refine AW.tk h (fun hb51 h => ?_) fun hb51 h => ?_
  ·refine AW.ro ?_
   refine bx h fun x52 h0 h1 h => ?_
   refine cm h (hself94 _ _) fun r54 hx55 h => ?_
   refine AW.ret ?_
   have h := up h hJ2
   cases h; refine nz ?_; exact .same _
  refine JoinQ.mkS (false, []) [1, 2] [] [] [(2, ⟨2, [[.d (.val (.bool false)), .d (slD strV [])]]⟩)] (Option.some.inj h).symm (by simp only [go_sem, reduceEqDiff, reduceAdd, reduceSub, reduceMul, reduceLeDiff, reduceLT, Nat.reduceBEq, reduceIte, sealL_cons, sealL_nil]) (by simp only [go_sem, reduceEqDiff, reduceAdd, reduceSub, reduceMul, reduceLeDiff, reduceLT, Nat.reduceBEq, reduceIte, sealH_cons, sealH_nil]; exact ⟨⟨.same _, .nil, trivial⟩, trivial⟩) (by simp only [go_sem, reduceEqDiff, reduceAdd, reduceSub, reduceMul, reduceLeDiff, reduceLT, Nat.reduceBEq, reduceIte])
 try dsimp only at h
 refine AW.ro ?_
 refine AW.ret ?_
 cases h; refine nz ?_; exact .same _
def static_MustOf (K : Nat) (p0 : NodeA) : Option Api_NamesA := iter K (fun self q => static_MustOf_body K self q) p0
theorem key_static_MustOf {K : Nat} (k : Nat) : (∀ (q : NodeA) (r : Api_NamesA), iter k (fun self q => static_MustOf_body K self q) q = some r → Cn Tryz.prog 94 [aggV q.enc] (aggV r.enc)) := by
 induction k with
 | zero => exact fun q r h => by cases h
 | succ k ih => exact fun q r h => static_MustOf_step K _ ih q r h
theorem static_MustOf_ok {K : Nat} {p0 : NodeA} {r : Api_NamesA} (h : static_MustOf K p0 = some r) : Cn Tryz.prog 94 [aggV p0.enc] (aggV r.enc) := (key_static_MustOf K) p0 r h
/-! ### isochrone/static.minus -/
def static_minus (K : Nat) (p0 : Api_NamesA) (p1 : Api_NamesA) : Option Api_NamesA := (static_not K p1).bind fun r1 =>
 (static_meet K p0 r1).bind fun r3 =>
 some r3
set_option maxHeartbeats 4000000 in
theorem static_minus_ok {K : Nat} {p0 : Api_NamesA} {p1 : Api_NamesA} {r : Api_NamesA} (h : static_minus K p0 p1 = some r) : Cn Tryz.prog 93 [aggV p0.enc, aggV p1.enc] (aggV r.enc) := by
 refine Cn.oz Tryz.func93 Tryz.call93 Tryz.ntmps93 Tryz.results93 fun hfit => ?_
 unfold static_minus at h
 refine AW.kr [] [0, 1] ?_
 refine AW.kr [0, 1, 2] [2, 3, 4] ?_
 refine pm h static_not_ok fun r1 hx2 h => ?_
 refine pm h static_meet_ok fun r3 hx4 h => ?_
 refine AW.ret ?_
 cases h; refine nz ?_; exact .same _
attribute [go_sem] toRow_acc rowOk_acc
theorem sorts : Sorts Tryz.prog 135 := ⟨Tryz.call135, fun blk off cap ss w h1 h2 h3 => Tryz.sort_Strings blk off cap ss w h1 h2 h3, fun p cap w => Tryz.sort_Strings_none p cap w⟩
/-! ### isochrone/static.primes -/
def static_primes (K : Nat) (p0 : Api_NamesA) : Option Api_NamesA := if p0.all then
  (static_everything K ).bind fun r2 =>
  some r2
 else
  ((iter (S := Int × (List ByteArray)) (R := (List ByteArray)) K (fun again (i4_0, i4_1) =>
   if (decide (i4_0 < (p0.list.length : Int))) then
    ((
     (idx p0.list i4_0).bind fun x11 =>
     (strAt x11 (IntKind.wrap .i64 ((x11.size : Int) - (1 : Int)))).bind fun c13 =>
     if ((c13.toNat : Int) != (39 : Int)) then
      (catO x11 (⟨#[39]⟩ : ByteArray)).bind fun s16 =>
      (appO 16 i4_1 [s16]).bind fun l18 =>
      some l18
     else
      some i4_1) : Option (List ByteArray)).bind (fun v9_0 =>
    again (IntKind.wrap .i64 (i4_0 + (1 : Int)), v9_0))
   else
    some i4_1) ((0 : Int), [])) : Option (List ByteArray)).bind (fun e5_0 =>
  (sortO e5_0).bind fun l20 =>
  (static_union K p0 (Api_NamesA.mk false l20)).bind fun r22 =>
  some r22)
set_option maxHeartbeats 4000000 in
theorem static_primes_ok {K : Nat} {p0 : Api_NamesA} {r : Api_NamesA} (h : static_primes K p0 = some r) : Cn Tryz.prog 92 [aggV p0.enc] (aggV r.enc) := by
 refine Cn.ofA mixed Tryz.func92 rfl Tryz.call92 Tryz.ntmps92 Tryz.results92 (by simp) (by simp only [go_sem, reduceEqDiff, reduceAdd, reduceSub, reduceMul, reduceLeDiff, reduceLT, Nat.reduceBEq, reduceIte]) fun hfit => ?_
 unfold static_primes at h
 refine AW.kp [] [0] ?_
 refine AW.op mixed ?_
 refine AW.kp [0, 1] [1, 2] ?_
 refine AW.one ?_
 refine AW.op mixed ?_
 refine AW.kp [0, 1] [1, 2, 7] ?_
 refine AW.ts p0.all (fun hb1 => ?_) (fun hb1 => ?_)
 ·have h := ifT hb1 h
  refine AW.op mixed ?_
  apply obindE h; intro r2 hx3 h
  have hc := nx (static_everything_ok (h := hx3))
  refine callP hc ?_
  refine AW.ret ?_
  obtain rfl := Option.some.inj h
  refine nz ?_
  exact .same _
 have h := ifF hb1 h
 refine AW.sk ?_
 refine AW.kp [0, 1] [1, 2] ?_
 refine AW.op mixed ?_
 refine AW.kp [0, 1] [1, 2, 3] ?_
 refine AW.one ?_
 refine AW.op mixed ?_
 refine AW.kp [0, 1] [1, 2, 3, 10, 11, 12] ?_
 refine obindE h fun oJ7 h hJ7 => ?_
 refine AW.join (S := (List ByteArray)) (fun e5_0 => [(1, .ptr 0 2 0 0), (2, .ptr 1 2 0 0), (3, accV 2 1 ((e5_0.map strV).map (·.map .d)))]) (fun e5_0 => [some ⟨2, [[.d (.val (.bool p0.all)), .d (slD strV p0.list)]]⟩, some ⟨2, [[.d (.val (.bool false)), .d (.val (.slice none 0 0))]]⟩, accO 1 ((e5_0.map strV).map (·.map .d))]) (fun x => x = oJ7) ?_ ?_
 ·refine AW.block ?_
  refine AW.iter (S := Int × (List ByteArray)) (fun (i4_0, i4_1) => [(1, .ptr 0 2 0 0), (2, .ptr 1 2 0 0), (3, accV 2 1 ((i4_1.map strV).map (·.map .d))), (10, .d (slD strV p0.list)), (11, .d (.val (.int .i64 (p0.list.length : Int)))), (12, .d (.val (.int .i64 i4_0)))]) (fun (i4_0, i4_1) => [some ⟨2, [[.d (.val (.bool p0.all)), .d (slD strV p0.list)]]⟩, some ⟨2, [[.d (.val (.bool false)), .d (.val (.slice none 0 0))]]⟩, accO 1 ((i4_1.map strV).map (·.map .d))]) [0, 1, 1002] h (by simp only [go_sem, reduceEqDiff, reduceAdd, reduceSub, reduceMul, reduceLeDiff, reduceLT, Nat.reduceBEq, reduceIte]) ?_
  rintro again ⟨i4_0, i4_1⟩ h
  try dsimp only at h
  refine AW.op mixed ?_
  refine AW.cu [0, 1, 2] [(1, .ptr 0 2 0 0), (2, .ptr 1 2 0 0), (3, accV 2 1 ((i4_1.map strV).map (·.map .d))), (10, .d (slD strV p0.list)), (11, .d (.val (.int .i64 (p0.list.length : Int)))), (12, .d (.val (.int .i64 i4_0))), (13, .d (.val (.bool (decide (i4_0 < (p0.list.length : Int))))))] [some ⟨2, [[.d (.val (.bool p0.all)), .d (slD strV p0.list)]]⟩, some ⟨2, [[.d (.val (.bool false)), .d (.val (.slice none 0 0))]]⟩, accO 1 ((i4_1.map strV).map (·.map .d))] ?_
  refine AW.one ?_
  refine AW.ts (decide (i4_0 < (p0.list.length : Int))) (fun hb8 => ?_) (fun hb8 => ?_)
  ·have h := ifT hb8 h
   refine AW.sk ?_
   refine AW.cu [0, 1, 2] [(1, .ptr 0 2 0 0), (2, .ptr 1 2 0 0), (3, accV 2 1 ((i4_1.map strV).map (·.map .d))), (10, .d (slD strV p0.list)), (11, .d (.val (.int .i64 (p0.list.length : Int)))), (12, .d (.val (.int .i64 i4_0)))] [some ⟨2, [[.d (.val (.bool p0.all)), .d (slD strV p0.list)]]⟩, some ⟨2, [[.d (.val (.bool false)), .d (.val (.slice none 0 0))]]⟩, accO 1 ((i4_1.map strV).map (·.map .d))] ?_
   refine AW.one ?_
   refine obindE h fun oJ10 h hJ10 => ?_
   refine AW.join (S := (List ByteArray)) (fun v9_0 => [(1, .ptr 0 2 0 0), (2, .ptr 1 2 0 0), (3, accV 2 1 ((v9_0.map strV).map (·.map .d))), (10, .d (slD strV p0.list)), (11, .d (.val (.int .i64 (p0.list.length : Int)))), (12, .d (.val (.int .i64 i4_0)))]) (fun v9_0 => [some ⟨2, [[.d (.val (.bool p0.all)), .d (slD strV p0.list)]]⟩, some ⟨2, [[.d (.val (.bool false)), .d (.val (.slice none 0 0))]]⟩, accO 1 ((v9_0.map strV).map (·.map .d))]) (fun x => x = oJ10) ?_ ?_
   ·skip
    refine AW.block ?_
    refine AW.one ?_
    refine AW.reg mixed (by kernel_rfl) ?_
    apply obindE h; intro x11 hx12 h
    try simp only [go_sem, reduceEqDiff, reduceAdd, reduceSub, reduceMul, reduceLeDiff, reduceLT, Nat.reduceBEq, reduceIte, (idx_some hx12).1, (idx_some hx12).2]
    refine AW.cut [0, 1, 2] [(1, .ptr 0 2 0 0), (2, .ptr 1 2 0 0), (3, accV 2 1 ((i4_1.map strV).map (·.map .d))), (5, .d (.val (.string x11))), (10, .d (slD strV p0.list)), (11, .d (.val (.int .i64 (p0.list.length : Int)))), (12, .d (.val (.int .i64 i4_0)))] [some ⟨2, [[.d (.val (.bool p0.all)), .d (slD strV p0.list)]]⟩, some ⟨2, [[.d (.val (.bool false)), .d (.val (.slice none 0 0))]]⟩, accO 1 ((i4_1.map strV).map (·.map .d))] (by simp only [go_sem, reduceEqDiff, reduceAdd, reduceSub, reduceMul, reduceLeDiff, reduceLT, Nat.reduceBEq, reduceIte, (idx_some hx12).1, (idx_some hx12).2]) ?_
    refine AW.one ?_
    refine AW.reg mixed (by kernel_rfl) ?_
    apply obindE h; intro c13 hx14 h
    try simp only [go_sem, reduceEqDiff, reduceAdd, reduceSub, reduceMul, reduceLeDiff, reduceLT, Nat.reduceBEq, reduceIte, hx14]
    refine AW.cut [0, 1, 2] [(1, .ptr 0 2 0 0), (2, .ptr 1 2 0 0), (3, accV 2 1 ((i4_1.map strV).map (·.map .d))), (5, .d (.val (.string x11))), (10, .d (slD strV p0.list)), (11, .d (.val (.int .i64 (p0.list.length : Int)))), (12, .d (.val (.int .i64 i4_0))), (21, .d (.val (.bool ((c13.toNat : Int) != (39 : Int)))))] [some ⟨2, [[.d (.val (.bool p0.all)), .d (slD strV p0.list)]]⟩, some ⟨2, [[.d (.val (.bool false)), .d (.val (.slice none 0 0))]]⟩, accO 1 ((i4_1.map strV).map (·.map .d))] (by simp only [go_sem, reduceEqDiff, reduceAdd, reduceSub, reduceMul, reduceLeDiff, reduceLT, Nat.reduceBEq, reduceIte, hx14]) ?_
    refine AW.ts ((c13.toNat : Int) != (39 : Int)) (fun hb15 => ?_) (fun hb15 => ?_)
    ·have h := ifT hb15 h
     refine AW.rg mixed ?_
     apply obindE h; intro s16 hx17 h
     try simp only [go_sem, reduceEqDiff, reduceAdd, reduceSub, reduceMul, reduceLeDiff, reduceLT, Nat.reduceBEq, reduceIte, bop_cat (P := Tryz.prog) hx17]
     apply obindE h; intro l18 hx19 h
     refine appG hx19 rfl (by simp only [go_sem, reduceEqDiff, reduceAdd, reduceSub, reduceMul, reduceLeDiff, reduceLT, Nat.reduceBEq, reduceIte, bop_cat (P := Tryz.prog) hx17]) (by simp only [go_sem, reduceEqDiff, reduceAdd, reduceSub, reduceMul, reduceLeDiff, reduceLT, Nat.reduceBEq, reduceIte, bop_cat (P := Tryz.prog) hx17]) (by simp only [go_sem, reduceEqDiff, reduceAdd, reduceSub, reduceMul, reduceLeDiff, reduceLT, Nat.reduceBEq, reduceIte, bop_cat (P := Tryz.prog) hx17]) (by simp) ?_
     try simp only [go_sem, reduceEqDiff, reduceAdd, reduceSub, reduceMul, reduceLeDiff, reduceLT, Nat.reduceBEq, reduceIte, bop_cat (P := Tryz.prog) hx17]
     refine JoinQ.mk l18 [0, 1, 7] (Option.some.inj h) (by simp only [go_sem, reduceEqDiff, reduceAdd, reduceSub, reduceMul, reduceLeDiff, reduceLT, Nat.reduceBEq, reduceIte, bop_cat (P := Tryz.prog) hx17])
    have h := ifF hb15 h
    refine AW.sk ?_
    exact JoinQ.ar i4_1 [0, 1, 2] (Option.some.inj h)
   rintro v9_0 rfl
   have h := hJ10
   try dsimp only [Out.fin] at h
   refine nz ?_
   refine AW.rg mixed ?_
   exact NextQ.ar (IntKind.wrap .i64 (i4_0 + (1 : Int)), v9_0) [0, 1, 2] h
  have h := ifF hb8 h
  refine AW.ex ?_
  exact JoinQ.ar i4_1 [0, 1, 2] (Option.some.inj h)
 rintro e5_0 rfl
 have h := hJ7
 try dsimp only [Out.fin] at h
 refine nz ?_
 refine AW.cu [0, 1, 2] [(1, .ptr 0 2 0 0), (2, .ptr 1 2 0 0), (3, accV 2 1 ((e5_0.map strV).map (·.map .d)))] [some ⟨2, [[.d (.val (.bool p0.all)), .d (slD strV p0.list)]]⟩, some ⟨2, [[.d (.val (.bool false)), .d (.val (.slice none 0 0))]]⟩, accO 1 ((e5_0.map strV).map (·.map .d))] ?_
 refine AW.op mixed ?_
 apply obindE h; intro l20 hx21 h
 refine callK_sort sorts hx21 (by simp only [go_sem, reduceEqDiff, reduceAdd, reduceSub, reduceMul, reduceLeDiff, reduceLT, Nat.reduceBEq, reduceIte]) ?_
 try simp only [go_sem, reduceEqDiff, reduceAdd, reduceSub, reduceMul, reduceLeDiff, reduceLT, Nat.reduceBEq, reduceIte, accV_sort hx21]
 refine AW.cut [0, 1, 2] [(1, .ptr 0 2 0 0), (2, .ptr 1 2 0 0), (3, accV 2 1 ((l20.map strV).map (·.map .d)))] [some ⟨2, [[.d (.val (.bool p0.all)), .d (slD strV p0.list)]]⟩, some ⟨2, [[.d (.val (.bool false)), .d (.val (.slice none 0 0))]]⟩, accO 1 ((l20.map strV).map (·.map .d))] (by simp only [go_sem, reduceEqDiff, reduceAdd, reduceSub, reduceMul, reduceLeDiff, reduceLT, Nat.reduceBEq, reduceIte, accV_sort hx21]) ?_
 refine AW.op mixed ?_
 apply obindE h; intro r22 hx23 h
 have hc := nx (static_union_ok (h := hx23))
 refine callK_seal [2] hc ⟨.same _, .aggL ⟨.same _, sealAcc (by simp only [go_sem, reduceEqDiff, reduceAdd, reduceSub, reduceMul, reduceLeDiff, reduceLT, Nat.reduceBEq, reduceIte]), trivial⟩, trivial⟩ (by simp only [go_sem, reduceEqDiff, reduceAdd, reduceSub, reduceMul, reduceLeDiff, reduceLT, Nat.reduceBEq, reduceIte]) (by simp only [go_sem, reduceEqDiff, reduceAdd, reduceSub, reduceMul, reduceLeDiff, reduceLT, Nat.reduceBEq, reduceIte]) ?_
 try simp only [go_sem, reduceEqDiff, reduceAdd, reduceSub, reduceMul, reduceLeDiff, reduceLT, Nat.reduceBEq, reduceIte]
 refine AW.ret ?_
 obtain rfl := Option.some.inj h
 refine nz ?_
 exact .same _
/-! ### isochrone/static.FreeOf -/
def static_FreeOf_body (K : Nat) (self56 : NodeA → Option Api_NamesA) (p0 : NodeA) : Option Api_NamesA := ((
  if (p0.op == (2 : Int)) then
   (static_one K p0.name).bind fun r4 =>
   outM (
    some r4)
  else
   if (p0.op == (3 : Int)) then
    (catO p0.name (⟨#[39]⟩ : ByteArray)).bind fun s7 =>
    (static_one K s7).bind fun r9 =>
    outM (
     some r9)
   else
    ((
     if (p0.op == (11 : Int)) then
      some (p0.op == (11 : Int))
     else
      if (p0.op == (38 : Int)) then
       some (p0.op == (38 : Int))
      else
       if (p0.op == (61 : Int)) then
        some (p0.op == (61 : Int))
       else
        if (p0.op == (62 : Int)) then
         some (p0.op == (62 : Int))
        else
         some (p0.op == (56 : Int))) : Option Bool).bind (fun v11_0 =>
    if v11_0 then
     (static_everything K ).bind fun r18 =>
     outM (
      some r18)
    else
     ((
      if (p0.op == (12 : Int)) then
       some (p0.op == (12 : Int))
      else
       some (p0.op == (39 : Int))) : Option Bool).bind (fun v20_0 =>
     if v20_0 then
      (idx p0.kids (0 : Int)).bind fun x24 =>
      (self56 (x24)).bind fun r26 =>
      (static_primes K r26).bind fun r28 =>
      outM (
       some r28)
     else
      ((
       if (p0.op == (33 : Int)) then
        some (p0.op == (33 : Int))
       else
        some (p0.op == (34 : Int))) : Option Bool).bind (fun v30_0 =>
      if v30_0 then
       (idx p0.kids (0 : Int)).bind fun x34 =>
       (self56 (x34)).bind fun r36 =>
       (static_one K p0.name).bind fun r38 =>
       (static_minus K r36 r38).bind fun r40 =>
       outM (
        some r40)
      else
       ((
        if (p0.op == (35 : Int)) then
         some (p0.op == (35 : Int))
        else
         if (p0.op == (36 : Int)) then
          some (p0.op == (36 : Int))
         else
          some (p0.op == (57 : Int))) : Option Bool).bind (fun v42_0 =>
       if v42_0 then
        (idx p0.kids (0 : Int)).bind fun x47 =>
        (self56 (x47)).bind fun r49 =>
        (idx p0.kids (1 : Int)).bind fun x51 =>
        (self56 (x51)).bind fun r53 =>
        (static_MustOf K x47).bind fun r55 =>
        (static_minus K r53 r55).bind fun r57 =>
        (static_union K r49 r57).bind fun r59 =>
        outM (
         some r59)
       else
        if (p0.op == (52 : Int)) then
         outM (
          some (Api_NamesA.mk false []))
        else
         if (p0.op == (55 : Int)) then
          (static_one K p0.name).bind fun r63 =>
          some (.go (r63.all, r63.list))
         else
          some (.go (false, []))))))) : Option (Out (Bool × (List ByteArray)) _)).bind (Out.fin fun (v1_0, v1_1) =>
 ((iter (S := Int × Api_NamesA) (R := Api_NamesA) K (fun again (i65_0, i65_1) =>
  if (decide (i65_0 < (p0.kids.length : Int))) then
   (idx p0.kids i65_0).bind fun x70 =>
   (self56 (x70)).bind fun r72 =>
   (static_union K i65_1 r72).bind fun r74 =>
   again (IntKind.wrap .i64 (i65_0 + (1 : Int)), r74)
  else
   some i65_1) ((0 : Int), (Api_NamesA.mk v1_0 v1_1))) : Option Api_NamesA).bind (fun e66_0 =>
 some e66_0))
set_option maxHeartbeats 4000000 in
theorem static_FreeOf_step (K : Nat) (self56 : NodeA → Option Api_NamesA) (hself56 : ∀ (q : NodeA) (r : Api_NamesA), self56 q = some r → Cn Tryz.prog 56 [aggV q.enc] (aggV r.enc)) (p0 : NodeA) (r : Api_NamesA) (h : static_FreeOf_body K self56 p0 = some r) : Cn Tryz.prog 56 [aggV p0.enc] (aggV r.enc) := by
 refine Cn.oz Tryz.func56 Tryz.call56 Tryz.ntmps56 Tryz.results56 fun hfit => ?_
 unfold static_FreeOf_body at h
 refine AW.kr [] [0] ?_
 refine AW.kr [0, 1] [1, 2] ?_
 refine AW.ks [0, 1, 2] [1, 2, 3] ?_
 refine AW.jo h (fun (v1_0, v1_1) => [(1, .ptr 0 6 0 0), (2, .ptr 1 2 0 0), (3, .ptr 2 2 0 0)]) (fun (v1_0, v1_1) => [vE p0.enc, some ⟨2, [[vB false, .d (.val (.slice none 0 0))]]⟩, some ⟨2, [[vB v1_0, vL strV v1_1]]⟩]) (fun oJ2 h hJ2 => ?_) fun ⟨v1_0, v1_1⟩ h => ?_
 ·refine AW.ro ?_
  refine AW.ks [0, 1, 2] [1, 2, 3, 7] ?_
  refine AW.block ?_
  refine AW.ro ?_
  refine AW.ks [0, 1, 2] [1, 2, 3, 7, 8] ?_
  refine AW.tt h (fun hb3 h => ?_) fun hb3 h => ?_
  ·refine AW.ro ?_
   refine cm h static_one_ok fun r4 hx5 h => ?_
   refine AW.ret ?_
   have h := up h hJ2
   cases h; refine nz ?_; exact .same _
  refine AW.ro ?_
  refine AW.ks [0, 1, 2] [1, 2, 3, 7, 13] ?_
  refine AW.tt h (fun hb6 h => ?_) fun hb6 h => ?_
  ·refine AW.ro ?_
   apply bE h; intro s7 hx8 h; have hx8 := bt hx8; refine ns ?_
   refine cm h static_one_ok fun r9 hx10 h => ?_
   refine AW.ret ?_
   have h := up h hJ2
   cases h; refine nz ?_; exact .same _
  refine AW.jn h (fun v11_0 => [(1, .ptr 0 6 0 0), (2, .ptr 1 2 0 0), (3, .ptr 2 2 0 0), (7, vI p0.op), (19, vB v11_0)]) (fun v11_0 => [vE p0.enc, some ⟨2, [[vB false, .d (.val (.slice none 0 0))]]⟩, some ⟨2, [[vB false, .d (.val (.slice none 0 0))]]⟩]) (fun oJ12 h => ?_) fun v11_0 h => ?_
  ·refine AW.ro ?_
   refine AW.ks [0, 1, 2] [1, 2, 3, 7, 19] ?_
   refine AW.tt h (fun hb13 h => ?_) fun hb13 h => ?_
   ·refine AW.sk ?_
    exact ja [0, 1, 2] h
   refine AW.ro ?_
   refine AW.ks [0, 1, 2] [1, 2, 3, 7, 19] ?_
   refine AW.tt h (fun hb14 h => ?_) fun hb14 h => ?_
   ·refine AW.sk ?_
    exact ja [0, 1, 2] h
   refine AW.ro ?_
   refine AW.ks [0, 1, 2] [1, 2, 3, 7, 19] ?_
   refine AW.tt h (fun hb15 h => ?_) fun hb15 h => ?_
   ·refine AW.sk ?_
    exact ja [0, 1, 2] h
   refine AW.ro ?_
   refine AW.ks [0, 1, 2] [1, 2, 3, 7, 19] ?_
   refine AW.tt h (fun hb16 h => ?_) fun hb16 h => ?_
   ·refine AW.sk ?_
    exact ja [0, 1, 2] h
   refine AW.rp ?_
   exact ja [0, 1, 2] h
  refine AW.tt h (fun hb17 h => ?_) fun hb17 h => ?_
  ·refine AW.ro ?_
   refine cm h static_everything_ok fun r18 hx19 h => ?_
   refine AW.ret ?_
   have h := up h hJ2
   cases h; refine nz ?_; exact .same _
  refine AW.jn h (fun v20_0 => [(1, .ptr 0 6 0 0), (2, .ptr 1 2 0 0), (3, .ptr 2 2 0 0), (7, vI p0.op), (26, vB v20_0)]) (fun v20_0 => [vE p0.enc, some ⟨2, [[vB false, .d (.val (.slice none 0 0))]]⟩, some ⟨2, [[vB false, .d (.val (.slice none 0 0))]]⟩]) (fun oJ21 h => ?_) fun v20_0 h => ?_
  ·refine AW.ro ?_
   refine AW.ks [0, 1, 2] [1, 2, 3, 7, 26] ?_
   refine AW.tt h (fun hb22 h => ?_) fun hb22 h => ?_
   ·refine AW.sk ?_
    exact ja [0, 1, 2] h
   refine AW.rp ?_
   exact ja [0, 1, 2] h
  refine AW.tt h (fun hb23 h => ?_) fun hb23 h => ?_
  ·refine AW.ro ?_
   refine bx h fun x24 h0 h1 h => ?_
   refine cm h (hself56 _ _) fun r26 hx27 h => ?_
   refine cm h static_primes_ok fun r28 hx29 h => ?_
   refine AW.ret ?_
   have h := up h hJ2
   cases h; refine nz ?_; exact .same _
  refine AW.jn h (fun v30_0 => [(1, .ptr 0 6 0 0), (2, .ptr 1 2 0 0), (3, .ptr 2 2 0 0), (7, vI p0.op), (35, vB v30_0)]) (fun v30_0 => [vE p0.enc, some ⟨2, [[vB false, .d (.val (.slice none 0 0))]]⟩, some ⟨2, [[vB false, .d (.val (.slice none 0 0))]]⟩]) (fun oJ31 h => ?_) fun v30_0 h => ?_
  ·refine AW.ro ?_
   refine AW.ks [0, 1, 2] [1, 2, 3, 7, 35] ?_
   refine AW.tt h (fun hb32 h => ?_) fun hb32 h => ?_
   ·refine AW.sk ?_
    exact ja [0, 1, 2] h
   refine AW.rp ?_
   exact ja [0, 1, 2] h
  refine AW.tt h (fun hb33 h => ?_) fun hb33 h => ?_
  ·refine AW.ro ?_
   refine bx h fun x34 h0 h1 h => ?_
   refine pm h (hself56 _ _) fun r36 hx37 h => ?_
   refine pm h static_one_ok fun r38 hx39 h => ?_
   refine pm h static_minus_ok fun r40 hx41 h => ?_
   refine AW.ret ?_
   have h := up h hJ2
   cases h; refine nz ?_; exact .same _
  refine AW.jn h (fun v42_0 => [(1, .ptr 0 6 0 0), (2, .ptr 1 2 0 0), (3, .ptr 2 2 0 0), (7, vI p0.op), (47, vB v42_0)]) (fun v42_0 => [vE p0.enc, some ⟨2, [[vB false, .d (.val (.slice none 0 0))]]⟩, some ⟨2, [[vB false, .d (.val (.slice none 0 0))]]⟩]) (fun oJ43 h => ?_) fun v42_0 h => ?_
  ·refine AW.ro ?_
   refine AW.ks [0, 1, 2] [1, 2, 3, 7, 47] ?_
   refine AW.tt h (fun hb44 h => ?_) fun hb44 h => ?_
   ·refine AW.sk ?_
    exact ja [0, 1, 2] h
   refine AW.ro ?_
   refine AW.ks [0, 1, 2] [1, 2, 3, 7, 47] ?_
   refine AW.tt h (fun hb45 h => ?_) fun hb45 h => ?_
   ·refine AW.sk ?_
    exact ja [0, 1, 2] h
   refine AW.rp ?_
   exact ja [0, 1, 2] h
  refine AW.tt h (fun hb46 h => ?_) fun hb46 h => ?_
  ·refine AW.ro ?_
   refine bx h fun x47 h0 h1 h => ?_
   refine pm h (hself56 _ _) fun r49 hx50 h => ?_
   refine bx h fun x51 h0 h1 h => ?_
   refine pm h (hself56 _ _) fun r53 hx54 h => ?_
   refine pm h static_MustOf_ok fun r55 hx56 h => ?_
   refine pm h static_minus_ok fun r57 hx58 h => ?_
   refine pm h static_union_ok fun r59 hx60 h => ?_
   refine AW.ret ?_
   have h := up h hJ2
   cases h; refine nz ?_; exact .same _
  refine AW.ro ?_
  refine AW.ks [0, 1, 2] [1, 2, 3, 7, 68] ?_
  refine AW.tt h (fun hb61 h => ?_) fun hb61 h => ?_
  ·refine AW.ro ?_
   refine AW.ret ?_
   have h := up h hJ2
   cases h; refine nz ?_; exact .aggL ⟨.same _, .nil, trivial⟩
  refine AW.ro ?_
  refine AW.ks [0, 1, 2] [1, 2, 3, 71] ?_
  refine AW.tk h (fun hb62 h => ?_) fun hb62 h => ?_
  ·refine AW.rp ?_
   refine cm h static_one_ok fun r63 hx64 h => ?_
   exact jo [0, 1, 2] h
  refine JoinQ.mkS (false, []) [0, 1, 2] [] [] [(2, ⟨2, [[.d (.val (.bool false)), .d (slD strV [])]]⟩)] (Option.some.inj h).symm (by simp only [go_sem, reduceEqDiff, reduceAdd, reduceSub, reduceMul, reduceLeDiff, reduceLT, Nat.reduceBEq, reduceIte, sealL_cons, sealL_nil]) (by simp only [go_sem, reduceEqDiff, reduceAdd, reduceSub, reduceMul, reduceLeDiff, reduceLT, Nat.reduceBEq, reduceIte, sealH_cons, sealH_nil]; exact ⟨⟨.same _, .nil, trivial⟩, trivial⟩) (by simp only [go_sem, reduceEqDiff, reduceAdd, reduceSub, reduceMul, reduceLeDiff, reduceLT, Nat.reduceBEq, reduceIte])
 try dsimp only at h
 refine AW.one ?_
 refine AW.ro ?_
 refine AW.ks [1, 2] [2, 3, 77, 78, 79] ?_
 refine AW.lm h (fun e66_0 => [(2, .ptr 0 2 0 0), (3, .ptr 1 2 0 0)]) (fun e66_0 => [some ⟨2, [[vB false, .d (.val (.slice none 0 0))]]⟩, vE e66_0.enc]) (fun (i65_0, i65_1) => [(2, .ptr 0 2 0 0), (3, .ptr 1 2 0 0), (77, vL NodeA.enc p0.kids), (78, vI (p0.kids.length : Int)), (79, vI i65_0)]) (fun (i65_0, i65_1) => [some ⟨2, [[vB false, .d (.val (.slice none 0 0))]]⟩, vE i65_1.enc]) [0, 1] (fun oJ68 again ⟨i65_0, i65_1⟩ h => ?_) fun e66_0 h => ?_
 ·try dsimp only at h
  refine AW.ro ?_
  refine AW.ks [0, 1] [2, 3, 77, 78, 79, 80] ?_
  refine AW.one ?_
  refine AW.tt h (fun hb69 h => ?_) fun hb69 h => ?_
  ·refine AW.sk ?_
   refine AW.ks [0, 1] [2, 3, 77, 78, 79] ?_
   refine AW.one ?_
   refine AW.block ?_
   refine AW.ro ?_
   refine bx h fun x70 h0 h1 h => ?_
   refine AW.ks [0, 1, 4] [2, 3, 5, 77, 78, 79] ?_
   refine AW.rp ?_
   refine pm h (hself56 _ _) fun r72 hx73 h => ?_
   refine pm h static_union_ok fun r74 hx75 h => ?_
   refine AW.ks [0, 1] [2, 3, 77, 78, 79] ?_
   refine AW.rp ?_
   exact na [0, 1] h
  refine AW.ex ?_
  exact ja [0, 1] h
 refine AW.kr [0, 1] [2, 3] ?_
 refine AW.ret ?_
 cases h; refine nz ?_; exact .same _
def static_FreeOf (K : Nat) (p0 : NodeA) : Option Api_NamesA := iter K (fun self q => static_FreeOf_body K self q) p0
theorem key_static_FreeOf {K : Nat} (k : Nat) : (∀ (q : NodeA) (r : Api_NamesA), iter k (fun self q => static_FreeOf_body K self q) q = some r → Cn Tryz.prog 56 [aggV q.enc] (aggV r.enc)) := by
 induction k with
 | zero => exact fun q r h => by cases h
 | succ k ih => exact fun q r h => static_FreeOf_step K _ ih q r h
theorem static_FreeOf_ok {K : Nat} {p0 : NodeA} {r : Api_NamesA} (h : static_FreeOf K p0 = some r) : Cn Tryz.prog 56 [aggV p0.enc] (aggV r.enc) := (key_static_FreeOf K) p0 r h
/-! ### isochrone/subst.all -/
def subst_all (K : Nat)  : Option Api_NamesA := some (Api_NamesA.mk true [])
set_option maxHeartbeats 4000000 in
theorem subst_all_ok {K : Nat}  {r : Api_NamesA} (h : subst_all K  = some r) : Cn Tryz.prog 50 [] (aggV r.enc) := by
 refine Cn.oz Tryz.func50 Tryz.call50 Tryz.ntmps50 Tryz.results50 fun hfit => ?_
 unfold subst_all at h
 refine AW.kr [] [] ?_
 refine AW.kr [0] [0] ?_
 refine AW.ret ?_
 cases h; refine nz ?_; exact .aggL ⟨.same _, .nil, trivial⟩
/-! ### isochrone/static.variable -/
def static_variable (K : Nat) (p0 : ByteArray) : Option Bool := ((
  ((
   if (decide ((0 : Int) < (p0.size : Int))) then
    (strAt p0 (IntKind.wrap .i64 ((p0.size : Int) - (1 : Int)))).bind fun c6 =>
    some ((c6.toNat : Int) == (39 : Int))
   else
    some false) : Option Bool).bind (fun v3_0 =>
  if v3_0 then
   (cutStr p0 none (some (IntKind.wrap .i64 ((p0.size : Int) - (1 : Int))))).bind fun s9 =>
   some s9
  else
   some p0)) : Option ByteArray).bind (fun v1_0 =>
 (tree_Name K v1_0).bind fun r11 =>
 some r11)
set_option maxHeartbeats 4000000 in
theorem static_variable_ok {K : Nat} {p0 : ByteArray} {r : Bool} (h : static_variable K p0 = some r) : Cn Tryz.prog 165 [.d (.val (.string p0))] (.d (.val (.bool r))) := by
 refine Cn.oz Tryz.func165 Tryz.call165 Tryz.ntmps165 Tryz.results165 fun hfit => ?_
 unfold static_variable at h
 refine AW.kr [] [0] ?_
 refine AW.ks [] [0] ?_
 refine AW.jn h (fun v1_0 => [(0, vS v1_0)]) (fun v1_0 => []) (fun oJ2 h => ?_) fun v1_0 h => ?_
 ·refine AW.ro ?_
  refine AW.ks [] [0, 3] ?_
  refine AW.jn h (fun v3_0 => [(0, vS p0), (3, vI (p0.size : Int)), (14, vB v3_0)]) (fun v3_0 => []) (fun oJ4 h => ?_) fun v3_0 h => ?_
  ·refine AW.rp ?_
   refine sK h (fun hb5 h => ?_) fun hb5 h => ?_
   ·refine bb h fun c6 hx7 h => ?_
    exact ja [] h
   exact ja [] h
  refine AW.tk h (fun hb8 h => ?_) fun hb8 h => ?_
  ·refine AW.rp ?_
   refine bb h fun s9 hx10 h => ?_
   exact ja [] h
  exact ja [] h
 refine AW.ro ?_
 refine cm h tree_Name_ok fun r11 hx12 h => ?_
 refine AW.ret ?_
 cases h; refine nz ?_; exact .same _
/-! ### isochrone/static.Valid -/
def static_Valid (K : Nat) (p0 : Api_NamesA) : Option Bool := ((iter (S := Int) (R := Out Unit _) K (fun again i1_0 =>
  if (decide (i1_0 < (p0.list.length : Int))) then
   ((
    (idx p0.list i1_0).bind fun x8 =>
    ((
     (static_variable K x8).bind fun r12 =>
     if (!r12) then
      some true
     else
      if (decide ((0 : Int) < i1_0)) then
       (idx p0.list (IntKind.wrap .i64 (i1_0 - (1 : Int)))).bind fun x16 =>
       some (!Op.bytesLess x16.toList x8.toList)
      else
       some false) : Option Bool).bind (fun v10_0 =>
    if v10_0 then
     outM (
      outM (
       some false))
    else
     some (.go ()))) : Option (Out Unit _)).bind (Out.fin fun _ =>
   again (IntKind.wrap .i64 (i1_0 + (1 : Int))))
  else
   some (.go ())) (0 : Int)) : Option (Out Unit _)).bind (Out.fin fun _ =>
 some true)
set_option maxHeartbeats 4000000 in
theorem static_Valid_ok {K : Nat} {p0 : Api_NamesA} {r : Bool} (h : static_Valid K p0 = some r) : Cn Tryz.prog 153 [aggV p0.enc] (.d (.val (.bool r))) := by
 refine Cn.oz Tryz.func153 Tryz.call153 Tryz.ntmps153 Tryz.results153 fun hfit => ?_
 unfold static_Valid at h
 refine AW.kr [] [0] ?_
 refine AW.ks [0] [1] ?_
 refine AW.one ?_
 refine AW.ro ?_
 refine AW.ks [0] [1, 6, 7, 8] ?_
 refine AW.lp h (fun _ => []) (fun _ => []) (fun i1_0 => [(1, .ptr 0 2 0 0), (6, vL strV p0.list), (7, vI (p0.list.length : Int)), (8, vI i1_0)]) (fun i1_0 => [vE p0.enc]) [0] (fun oJ4 hJ4 again i1_0 h => ?_) fun ⟨⟩ h => ?_
 ·refine AW.ro ?_
  refine AW.ks [0] [1, 6, 7, 8, 9] ?_
  refine AW.one ?_
  refine AW.tt h (fun hb5 h => ?_) fun hb5 h => ?_
  ·refine AW.sk ?_
   refine AW.ks [0] [1, 6, 7, 8] ?_
   refine AW.jo h (fun _ => [(1, .ptr 0 2 0 0), (6, vL strV p0.list), (7, vI (p0.list.length : Int)), (8, vI i1_0)]) (fun _ => [vE p0.enc]) (fun oJ7 h hJ7 => ?_) fun ⟨⟩ h => ?_
   ·refine AW.block ?_
    refine AW.ro ?_
    refine bx h fun x8 h0 h1 h => ?_
    refine AW.ks [0] [1, 3, 4, 6, 7, 8] ?_
    refine AW.jn h (fun v10_0 => [(1, .ptr 0 2 0 0), (6, vL strV p0.list), (7, vI (p0.list.length : Int)), (8, vI i1_0), (29, vB v10_0)]) (fun v10_0 => [vE p0.enc]) (fun oJ11 h => ?_) fun v10_0 h => ?_
    ·refine AW.rp ?_
     refine cm h static_variable_ok fun r12 hx13 h => ?_
     refine sK h (fun hb14 h => ?_) fun hb14 h => ?_
     ·exact ja [0] h
     refine sK h (fun hb15 h => ?_) fun hb15 h => ?_
     ·refine bx h fun x16 h0 h1 h => ?_
      exact ja [0] h
     exact ja [0] h
    refine AW.tk h (fun hb18 h => ?_) fun hb18 h => ?_
    ·refine AW.ro ?_
     refine AW.ret ?_
     have h := up h hJ7
     have h := up h hJ4
     cases h; refine nz ?_; exact .same _
    exact jo [0] h
   refine AW.rp ?_
   exact na [0] h
  refine AW.ex ?_
  exact jo [] h
 refine AW.kr [] [] ?_
 refine AW.ret ?_
 cases h; refine nz ?_; exact .same _
/-! ### isochrone/static.Disjoint -/
def static_Disjoint (K : Nat) (p0 : Api_NamesA) (p1 : Api_NamesA) : Option (Bool × Int) := ((
  ((
   (static_Valid K p0).bind fun r5 =>
   if (!r5) then
    some true
   else
    (static_Valid K p1).bind fun r8 =>
    some (!r8)) : Option Bool).bind (fun v3_0 =>
  if v3_0 then
   outM (
    some (false, (3 : Int)))
  else
   some (.go ()))) : Option (Out Unit _)).bind (Out.fin fun _ =>
 (static_meet K p0 p1).bind fun r11 =>
 if (!r11.all) then
  some (((r11.list.length : Int) == (0 : Int)), (0 : Int))
 else
  some (false, (0 : Int)))
set_option maxHeartbeats 4000000 in
theorem static_Disjoint_ok {K : Nat} {p0 : Api_NamesA} {p1 : Api_NamesA} {r : Bool × Int} (h : static_Disjoint K p0 p1 = some r) : Cn Tryz.prog 133 [aggV p0.enc, aggV p1.enc] (.tup [.d (.val (.bool r.1)), .d (.val (.int .i64 r.2))]) := by
 refine Cn.oz Tryz.func133 Tryz.call133 Tryz.ntmps133 Tryz.results133 fun hfit => ?_
 unfold static_Disjoint at h
 refine AW.kr [] [0, 1] ?_
 refine AW.ks [0, 1] [2, 3] ?_
 refine AW.jo h (fun _ => [(2, .ptr 0 2 0 0), (3, .ptr 1 2 0 0)]) (fun _ => [vE p0.enc, vE p1.enc]) (fun oJ2 h hJ2 => ?_) fun ⟨⟩ h => ?_
 ·refine AW.jn h (fun v3_0 => [(2, .ptr 0 2 0 0), (3, .ptr 1 2 0 0), (14, vB v3_0)]) (fun v3_0 => [vE p0.enc, vE p1.enc]) (fun oJ4 h => ?_) fun v3_0 h => ?_
  ·refine AW.rp ?_
   refine cm h static_Valid_ok fun r5 hx6 h => ?_
   refine sK h (fun hb7 h => ?_) fun hb7 h => ?_
   ·exact ja [0, 1] h
   refine cm h static_Valid_ok fun r8 hx9 h => ?_
   exact ja [0, 1] h
  refine AW.tk h (fun hb10 h => ?_) fun hb10 h => ?_
  ·refine AW.ro ?_
   refine AW.ret ?_
   have h := up h hJ2
   cases h; refine nz ?_; exact .same _
  exact jo [0, 1] h
 refine AW.ro ?_
 refine cm h static_meet_ok fun r11 hx12 h => ?_
 refine AW.kr [5] [6] ?_
 refine sK h (fun hb13 h => ?_) fun hb13 h => ?_
 ·refine AW.ret ?_
  cases h; refine nz ?_; exact .same _
 refine AW.ret ?_
 cases h; refine nz ?_; exact .same _
/-! ### isochrone/subst.apart -/
def subst_apart (K : Nat) (p0 : Api_NamesA) (p1 : Api_NamesA) : Option Bool := (static_Disjoint K p0 p1).bind fun r1 =>
 some r1.1
set_option maxHeartbeats 4000000 in
theorem subst_apart_ok {K : Nat} {p0 : Api_NamesA} {p1 : Api_NamesA} {r : Bool} (h : subst_apart K p0 p1 = some r) : Cn Tryz.prog 86 [aggV p0.enc, aggV p1.enc] (.d (.val (.bool r))) := by
 refine Cn.oz Tryz.func86 Tryz.call86 Tryz.ntmps86 Tryz.results86 fun hfit => ?_
 unfold subst_apart at h
 refine AW.kr [] [0, 1] ?_
 refine AW.kr [0, 1] [2, 3] ?_
 refine cm h static_Disjoint_ok fun r1 hx2 h => ?_
 refine AW.kr [] [5] ?_
 refine AW.ret ?_
 cases h; refine nz ?_; exact .same _
/-! ### isochrone/subst.captured$1 -/
def subst_captured_1 (K : Nat) (p0 : NodeA) (p1 : Api_NamesA) (p2 : Api_NamesA) : Option Bool := (static_Uses K p0 [(13 : Int)]).bind fun r1 =>
 if r1 then
  (subst_apart K p2 p1).bind fun r4 =>
  some (!r4)
 else
  some false
set_option maxHeartbeats 4000000 in
theorem subst_captured_1_ok {K : Nat} {p0 : NodeA} {p1 : Api_NamesA} {p2 : Api_NamesA} {r : Bool} (h : subst_captured_1 K p0 p1 p2 = some r) : Cn Tryz.prog 91 [aggV p0.enc, aggV p1.enc, .iptr [.val (.bool p2.all), slD strV p2.list]] (.d (.val (.bool r))) := by
 refine Cn.oz Tryz.func91 Tryz.call91 Tryz.ntmps91 Tryz.results91 fun hfit => ?_
 unfold subst_captured_1 at h
 refine AW.kr [] [0, 1, 2] ?_
 refine AW.kr [0, 1] [2, 3, 4] ?_
 refine cm h static_Uses_ok fun r1 hx2 h => ?_
 refine sK h (fun hb3 h => ?_) fun hb3 h => ?_
 ·refine cm h subst_apart_ok fun r4 hx5 h => ?_
  refine AW.ret ?_
  cases h; refine nz ?_; exact .same _
 refine AW.ret ?_
 cases h; refine nz ?_; exact .same _
/-! ### isochrone/subst.captured -/
def subst_captured_body (K : Nat) (self55 : (NodeA × Api_NamesA) → Option Bool) (p0 : NodeA) (p1 : Api_NamesA) : Option Bool := ((
  ((
   if (p0.op == (33 : Int)) then
    some (p0.op == (33 : Int))
   else
    some (p0.op == (34 : Int))) : Option Bool).bind (fun v3_0 =>
  if v3_0 then
   (idx p0.kids (0 : Int)).bind fun x7 =>
   (subst_captured_1 K x7 (Api_NamesA.mk false [p0.name]) p1).bind fun r9 =>
   if r9 then
    outM (
     some true)
   else
    some (.go ())
  else
   ((
    if (p0.op == (12 : Int)) then
     some (p0.op == (12 : Int))
    else
     some (p0.op == (39 : Int))) : Option Bool).bind (fun v12_0 =>
   if v12_0 then
    (idx p0.kids (0 : Int)).bind fun x16 =>
    (subst_all K ).bind fun r18 =>
    (subst_captured_1 K x16 r18 p1).bind fun r20 =>
    if r20 then
     outM (
      some true)
    else
     some (.go ())
   else
    ((
     if (p0.op == (35 : Int)) then
      some (p0.op == (35 : Int))
     else
      if (p0.op == (36 : Int)) then
       some (p0.op == (36 : Int))
      else
       some (p0.op == (57 : Int))) : Option Bool).bind (fun v23_0 =>
    if v23_0 then
     (idx p0.kids (1 : Int)).bind fun x28 =>
     (idx p0.kids (0 : Int)).bind fun x30 =>
     (static_BoundOf K x30).bind fun r32 =>
     (subst_captured_1 K x28 r32 p1).bind fun r34 =>
     if r34 then
      outM (
       some true)
     else
      some (.go ())
    else
     ((
      if (p0.op == (59 : Int)) then
       some (p0.op == (59 : Int))
      else
       some (p0.op == (54 : Int))) : Option Bool).bind (fun v37_0 =>
     if v37_0 then
      (static_BoundOf K p0).bind fun r41 =>
      ((iter (S := Int) (R := Out Unit _) K (fun again i43_0 =>
       if (decide (i43_0 < (p0.kids.length : Int))) then
        (idx p0.kids i43_0).bind fun x48 =>
        (subst_captured_1 K x48 r41 p1).bind fun r50 =>
        if r50 then
         outM (
          outM (
           some true))
        else
         again (IntKind.wrap .i64 (i43_0 + (1 : Int)))
       else
        some (.go ())) (0 : Int)) : Option (Out Unit _)).bind (Out.fin fun _ =>
      some (.go ()))
     else
      some (.go ())))))) : Option (Out Unit _)).bind (Out.fin fun _ =>
 ((iter (S := Int) (R := Out Unit _) K (fun again i53_0 =>
  if (decide (i53_0 < (p0.kids.length : Int))) then
   (idx p0.kids i53_0).bind fun x58 =>
   (self55 (x58, p1)).bind fun r60 =>
   if r60 then
    outM (
     some true)
   else
    again (IntKind.wrap .i64 (i53_0 + (1 : Int)))
  else
   some (.go ())) (0 : Int)) : Option (Out Unit _)).bind (Out.fin fun _ =>
 some false))
set_option maxHeartbeats 4000000 in
theorem subst_captured_step (K : Nat) (self55 : (NodeA × Api_NamesA) → Option Bool) (hself55 : ∀ (q : NodeA × Api_NamesA) (r : Bool), self55 q = some r → Cn Tryz.prog 55 [aggV q.1.enc, aggV q.2.enc] (.d (.val (.bool r)))) (p0 : NodeA) (p1 : Api_NamesA) (r : Bool) (h : subst_captured_body K self55 p0 p1 = some r) : Cn Tryz.prog 55 [aggV p0.enc, aggV p1.enc] (.d (.val (.bool r))) := by
 refine Cn.oz Tryz.func55 Tryz.call55 Tryz.ntmps55 Tryz.results55 fun hfit => ?_
 unfold subst_captured_body at h
 refine AW.kr [] [0, 1] ?_
 refine AW.kr [0, 1] [2, 3] ?_
 refine AW.ks [0, 1] [2, 3, 5] ?_
 refine AW.jo h (fun _ => [(2, .ptr 0 6 0 0), (3, .ptr 1 2 0 0)]) (fun _ => [vE p0.enc, vE p1.enc]) (fun oJ2 h hJ2 => ?_) fun ⟨⟩ h => ?_
 ·refine AW.ro ?_
  refine AW.ks [0, 1] [2, 3, 5, 13] ?_
  refine AW.block ?_
  refine AW.jn h (fun v3_0 => [(2, .ptr 0 6 0 0), (3, .ptr 1 2 0 0), (5, .fn 91 [.ptr 1 2 0 0]), (13, vI p0.op), (14, vB v3_0)]) (fun v3_0 => [vE p0.enc, vE p1.enc]) (fun oJ4 h => ?_) fun v3_0 h => ?_
  ·refine AW.ro ?_
   refine AW.ks [0, 1] [2, 3, 5, 13, 14] ?_
   refine AW.tt h (fun hb5 h => ?_) fun hb5 h => ?_
   ·refine AW.sk ?_
    exact ja [0, 1] h
   refine AW.rp ?_
   exact ja [0, 1] h
  refine AW.tt h (fun hb6 h => ?_) fun hb6 h => ?_
  ·refine AW.ro ?_
   refine bx h fun x7 h0 h1 h => ?_
   apply bE h; intro r9 hx10 h
   have hc := nx (subst_captured_1_ok (h := hx10))
   refine pcallK_look hc ⟨.same _, .same _, sealPtr (by simp only [go_sem, reduceEqDiff, reduceAdd, reduceSub, reduceMul, reduceLeDiff, reduceLT, Nat.reduceBEq, reduceIte]), trivial⟩ (by simp only [go_sem, reduceEqDiff, reduceAdd, reduceSub, reduceMul, reduceLeDiff, reduceLT, Nat.reduceBEq, reduceIte]) (by simp [V.flat, V.flatL]) ?_
   refine ns ?_
   refine AW.ks [0, 1] [2, 3, 26] ?_
   refine AW.tk h (fun hb11 h => ?_) fun hb11 h => ?_
   ·refine AW.ro ?_
    refine AW.ret ?_
    have h := up h hJ2
    cases h; refine nz ?_; exact .same _
   exact jo [0, 1] h
  refine AW.jn h (fun v12_0 => [(2, .ptr 0 6 0 0), (3, .ptr 1 2 0 0), (5, .fn 91 [.ptr 1 2 0 0]), (13, vI p0.op), (27, vB v12_0)]) (fun v12_0 => [vE p0.enc, vE p1.enc]) (fun oJ13 h => ?_) fun v12_0 h => ?_
  ·refine AW.ro ?_
   refine AW.ks [0, 1] [2, 3, 5, 13, 27] ?_
   refine AW.tt h (fun hb14 h => ?_) fun hb14 h => ?_
   ·refine AW.sk ?_
    exact ja [0, 1] h
   refine AW.rp ?_
   exact ja [0, 1] h
  refine AW.tt h (fun hb15 h => ?_) fun hb15 h => ?_
  ·refine AW.ro ?_
   refine bx h fun x16 h0 h1 h => ?_
   refine pm h subst_all_ok fun r18 hx19 h => ?_
   apply bE h; intro r20 hx21 h
   have hc := nx (subst_captured_1_ok (h := hx21))
   refine pcallK_look hc ⟨.same _, .same _, sealPtr (by simp only [go_sem, reduceEqDiff, reduceAdd, reduceSub, reduceMul, reduceLeDiff, reduceLT, Nat.reduceBEq, reduceIte]), trivial⟩ (by simp only [go_sem, reduceEqDiff, reduceAdd, reduceSub, reduceMul, reduceLeDiff, reduceLT, Nat.reduceBEq, reduceIte]) (by simp [V.flat, V.flatL]) ?_
   refine ns ?_
   refine AW.ks [0, 1] [2, 3, 36] ?_
   refine AW.tk h (fun hb22 h => ?_) fun hb22 h => ?_
   ·refine AW.ro ?_
    refine AW.ret ?_
    have h := up h hJ2
    cases h; refine nz ?_; exact .same _
   exact jo [0, 1] h
  refine AW.jn h (fun v23_0 => [(2, .ptr 0 6 0 0), (3, .ptr 1 2 0 0), (5, .fn 91 [.ptr 1 2 0 0]), (13, vI p0.op), (37, vB v23_0)]) (fun v23_0 => [vE p0.enc, vE p1.enc]) (fun oJ24 h => ?_) fun v23_0 h => ?_
  ·refine AW.ro ?_
   refine AW.ks [0, 1] [2, 3, 5, 13, 37] ?_
   refine AW.tt h (fun hb25 h => ?_) fun hb25 h => ?_
   ·refine AW.sk ?_
    exact ja [0, 1] h
   refine AW.ro ?_
   refine AW.ks [0, 1] [2, 3, 5, 13, 37] ?_
   refine AW.tt h (fun hb26 h => ?_) fun hb26 h => ?_
   ·refine AW.sk ?_
    exact ja [0, 1] h
   refine AW.rp ?_
   exact ja [0, 1] h
  refine AW.tt h (fun hb27 h => ?_) fun hb27 h => ?_
  ·refine AW.ro ?_
   refine bx h fun x28 h0 h1 h => ?_
   refine bx h fun x30 h0 h1 h => ?_
   refine pm h static_BoundOf_ok fun r32 hx33 h => ?_
   apply bE h; intro r34 hx35 h
   have hc := nx (subst_captured_1_ok (h := hx35))
   refine pcallK_look hc ⟨.same _, .same _, sealPtr (by simp only [go_sem, reduceEqDiff, reduceAdd, reduceSub, reduceMul, reduceLeDiff, reduceLT, Nat.reduceBEq, reduceIte]), trivial⟩ (by simp only [go_sem, reduceEqDiff, reduceAdd, reduceSub, reduceMul, reduceLeDiff, reduceLT, Nat.reduceBEq, reduceIte]) (by simp [V.flat, V.flatL]) ?_
   refine ns ?_
   refine AW.ks [0, 1] [2, 3, 51] ?_
   refine AW.tk h (fun hb36 h => ?_) fun hb36 h => ?_
   ·refine AW.ro ?_
    refine AW.ret ?_
    have h := up h hJ2
    cases h; refine nz ?_; exact .same _
   exact jo [0, 1] h
  refine AW.jn h (fun v37_0 => [(2, .ptr 0 6 0 0), (3, .ptr 1 2 0 0), (5, .fn 91 [.ptr 1 2 0 0]), (52, vB v37_0)]) (fun v37_0 => [vE p0.enc, vE p1.enc]) (fun oJ38 h => ?_) fun v37_0 h => ?_
  ·refine AW.ro ?_
   refine AW.ks [0, 1] [2, 3, 5, 13, 52] ?_
   refine AW.tt h (fun hb39 h => ?_) fun hb39 h => ?_
   ·refine AW.sk ?_
    exact ja [0, 1] h
   refine AW.rp ?_
   exact ja [0, 1] h
  refine AW.tk h (fun hb40 h => ?_) fun hb40 h => ?_
  ·refine AW.ro ?_
   refine cm h static_BoundOf_ok fun r41 hx42 h => ?_
   refine AW.kr [0, 1, 4] [2, 3, 5, 6] ?_
   refine AW.ks [0, 1, 2] [2, 3, 5, 6, 58, 59, 60] ?_
   refine AW.lp h (fun _ => [(2, .ptr 0 6 0 0), (3, .ptr 1 2 0 0)]) (fun _ => [vE p0.enc, vE p1.enc]) (fun i43_0 => [(2, .ptr 0 6 0 0), (3, .ptr 1 2 0 0), (5, .fn 91 [.ptr 1 2 0 0]), (6, .ptr 2 2 0 0), (58, vL NodeA.enc p0.kids), (59, vI (p0.kids.length : Int)), (60, vI i43_0)]) (fun i43_0 => [vE p0.enc, vE p1.enc, vE r41.enc]) [0, 1, 2] (fun oJ46 hJ46 again i43_0 h => ?_) fun ⟨⟩ h => ?_
   ·refine AW.ro ?_
    refine AW.ks [0, 1, 2] [2, 3, 5, 6, 58, 59, 60, 61] ?_
    refine AW.one ?_
    refine AW.tt h (fun hb47 h => ?_) fun hb47 h => ?_
    ·refine AW.sk ?_
     refine AW.ks [0, 1, 2] [2, 3, 5, 6, 58, 59, 60] ?_
     refine AW.one ?_
     refine AW.block ?_
     refine AW.ro ?_
     refine bx h fun x48 h0 h1 h => ?_
     refine AW.kr [0, 1, 2, 5] [2, 3, 5, 6, 8, 58, 59, 60] ?_
     refine cl h subst_captured_1_ok (fun r50 hx51 h => ?_) (hs := by exact ⟨.same _, .same _, sealPtr (by simp only [go_sem, reduceEqDiff, reduceAdd, reduceSub, reduceMul, reduceLeDiff, reduceLT, Nat.reduceBEq, reduceIte]), trivial⟩)
     refine AW.ks [0, 1, 2] [2, 3, 5, 6, 58, 59, 60, 67] ?_
     refine AW.tk h (fun hb52 h => ?_) fun hb52 h => ?_
     ·refine AW.ro ?_
      refine AW.ret ?_
      have h := up h hJ46
      have h := up h hJ2
      cases h; refine nz ?_; exact .same _
     refine AW.ks [0, 1, 2] [2, 3, 5, 6, 58, 59, 60] ?_
     refine AW.rp ?_
     exact na [0, 1, 2] h
    refine AW.ex ?_
    exact jo [0, 1] h
   exact jo [0, 1] h
  exact jo [0, 1] h
 refine AW.one ?_
 refine AW.ro ?_
 refine AW.ks [1] [3, 70, 71, 72] ?_
 refine AW.lp h (fun _ => []) (fun _ => []) (fun i53_0 => [(3, .ptr 0 2 0 0), (70, vL NodeA.enc p0.kids), (71, vI (p0.kids.length : Int)), (72, vI i53_0)]) (fun i53_0 => [vE p1.enc]) [0] (fun oJ56 hJ56 again i53_0 h => ?_) fun ⟨⟩ h => ?_
 ·refine AW.ro ?_
  refine AW.ks [0] [3, 70, 71, 72, 73] ?_
  refine AW.one ?_
  refine AW.tt h (fun hb57 h => ?_) fun hb57 h => ?_
  ·refine AW.sk ?_
   refine AW.ks [0] [3, 70, 71, 72] ?_
   refine AW.one ?_
   refine AW.block ?_
   refine AW.ro ?_
   refine bx h fun x58 h0 h1 h => ?_
   refine AW.kr [0, 3] [3, 10, 70, 71, 72] ?_
   refine cm h (hself55 _ _) fun r60 hx61 h => ?_
   refine AW.ks [0] [3, 70, 71, 72, 78] ?_
   refine AW.tk h (fun hb62 h => ?_) fun hb62 h => ?_
   ·refine AW.ro ?_
    refine AW.ret ?_
    have h := up h hJ56
    cases h; refine nz ?_; exact .same _
   refine AW.ks [0] [3, 70, 71, 72] ?_
   refine AW.rp ?_
   exact na [0] h
  refine AW.ex ?_
  exact jo [] h
 refine AW.kr [] [] ?_
 refine AW.ret ?_
 cases h; refine nz ?_; exact .same _
def subst_captured (K : Nat) (p0 : NodeA) (p1 : Api_NamesA) : Option Bool := iter K (fun self q => subst_captured_body K self q.1 q.2) (p0, p1)
theorem key_subst_captured {K : Nat} (k : Nat) : (∀ (q : NodeA × Api_NamesA) (r : Bool), iter k (fun self q => subst_captured_body K self q.1 q.2) q = some r → Cn Tryz.prog 55 [aggV q.1.enc, aggV q.2.enc] (.d (.val (.bool r)))) := by
 induction k with
 | zero => exact fun q r h => by cases h
 | succ k ih => exact fun q r h => subst_captured_step K _ ih q.1 q.2 r h
theorem subst_captured_ok {K : Nat} {p0 : NodeA} {p1 : Api_NamesA} {r : Bool} (h : subst_captured K p0 p1 = some r) : Cn Tryz.prog 55 [aggV p0.enc, aggV p1.enc] (.d (.val (.bool r))) := (key_subst_captured K) (p0, p1) r h
/-! ### isochrone/subst.dots -/
def subst_dots_body (K : Nat) (self58 : NodeA → Option Int) (p0 : NodeA) : Option Int := ((
  if (p0.op == (13 : Int)) then
   some (1 : Int)
  else
   some (0 : Int)) : Option Int).bind (fun v1_0 =>
 ((iter (S := Int × Int) (R := Int) K (fun again (i4_0, i4_1) =>
  if (decide (i4_1 < (p0.kids.length : Int))) then
   (idx p0.kids i4_1).bind fun x9 =>
   (self58 (x9)).bind fun r11 =>
   again (IntKind.wrap .i64 (i4_0 + r11), IntKind.wrap .i64 (i4_1 + (1 : Int)))
  else
   some i4_0) (v1_0, (0 : Int))) : Option Int).bind (fun e5_0 =>
 some e5_0))
set_option maxHeartbeats 4000000 in
theorem subst_dots_step (K : Nat) (self58 : NodeA → Option Int) (hself58 : ∀ (q : NodeA) (r : Int), self58 q = some r → Cn Tryz.prog 58 [aggV q.enc] (.d (.val (.int .i64 r)))) (p0 : NodeA) (r : Int) (h : subst_dots_body K self58 p0 = some r) : Cn Tryz.prog 58 [aggV p0.enc] (.d (.val (.int .i64 r))) := by
 refine Cn.oz Tryz.func58 Tryz.call58 Tryz.ntmps58 Tryz.results58 fun hfit => ?_
 unfold subst_dots_body at h
 refine AW.kr [] [0] ?_
 refine AW.kr [0] [1] ?_
 refine AW.ks [0] [1, 3] ?_
 refine AW.jn h (fun v1_0 => [(1, .ptr 0 6 0 0), (3, vI v1_0)]) (fun v1_0 => [vE p0.enc]) (fun oJ2 h => ?_) fun v1_0 h => ?_
 ·refine AW.ro ?_
  refine AW.ks [0] [1, 3, 8] ?_
  refine AW.tk h (fun hb3 h => ?_) fun hb3 h => ?_
  ·refine AW.rp ?_
   exact ja [0] h
  exact ja [0] h
 refine AW.one ?_
 refine AW.ro ?_
 refine AW.ks [] [3, 10, 11, 12] ?_
 refine AW.lm h (fun e5_0 => [(3, vI e5_0)]) (fun e5_0 => []) (fun (i4_0, i4_1) => [(3, vI i4_0), (10, vL NodeA.enc p0.kids), (11, vI (p0.kids.length : Int)), (12, vI i4_1)]) (fun (i4_0, i4_1) => []) [] (fun oJ7 again ⟨i4_0, i4_1⟩ h => ?_) fun e5_0 h => ?_
 ·try dsimp only at h
  refine AW.ro ?_
  refine AW.ks [] [3, 10, 11, 12, 13] ?_
  refine AW.one ?_
  refine AW.tt h (fun hb8 h => ?_) fun hb8 h => ?_
  ·refine AW.sk ?_
   refine AW.ks [] [3, 10, 11, 12] ?_
   refine AW.one ?_
   refine AW.block ?_
   refine AW.ro ?_
   refine bx h fun x9 h0 h1 h => ?_
   refine AW.ks [2] [3, 5, 10, 11, 12] ?_
   refine AW.rp ?_
   refine cm h (hself58 _ _) fun r11 hx12 h => ?_
   refine AW.ks [] [3, 10, 11, 12] ?_
   refine AW.rp ?_
   exact na [] h
  refine AW.ex ?_
  exact ja [] h
 refine AW.kr [] [3] ?_
 refine AW.ret ?_
 cases h; refine nz ?_; exact .same _
def subst_dots (K : Nat) (p0 : NodeA) : Option Int := iter K (fun self q => subst_dots_body K self q) p0
theorem key_subst_dots {K : Nat} (k : Nat) : (∀ (q : NodeA) (r : Int), iter k (fun self q => subst_dots_body K self q) q = some r → Cn Tryz.prog 58 [aggV q.enc] (.d (.val (.int .i64 r)))) := by
 induction k with
 | zero => exact fun q r h => by cases h
 | succ k ih => exact fun q r h => subst_dots_step K _ ih q r h
theorem subst_dots_ok {K : Nat} {p0 : NodeA} {r : Int} (h : subst_dots K p0 = some r) : Cn Tryz.prog 58 [aggV p0.enc] (.d (.val (.int .i64 r))) := (key_subst_dots K) p0 r h
/-! ### isochrone/tree.Copy -/
def tree_Copy_body (K : Nat) (self48 : NodeA → Option NodeA) (p0 : NodeA) : Option NodeA := ((
  if (decide ((0 : Int) < (p0.num.num.length : Int))) then
   (appO 4 [] p0.num.num).bind fun l4 =>
   some l4
  else
   some []) : Option (List Int)).bind (fun v1_0 =>
 ((
  if (decide ((0 : Int) < (p0.num.den.length : Int))) then
   (appO 4 [] p0.num.den).bind fun l9 =>
   some l9
  else
   some []) : Option (List Int)).bind (fun v6_0 =>
 ((iter (S := Int × (List NodeA)) (R := (List NodeA)) K (fun again (i11_0, i11_1) =>
  if (decide (i11_0 < (p0.kids.length : Int))) then
   (idx p0.kids i11_0).bind fun x16 =>
   (self48 (x16)).bind fun r18 =>
   (appO 104 i11_1 [r18]).bind fun l20 =>
   again (IntKind.wrap .i64 (i11_0 + (1 : Int)), l20)
  else
   some i11_1) ((0 : Int), [])) : Option (List NodeA)).bind (fun e12_0 =>
 some (NodeA.mk p0.op p0.name (RatA.mk p0.num.neg v1_0 v6_0) e12_0))))
set_option maxHeartbeats 4000000 in
theorem tree_Copy_stepO (K : Nat) (self48 : NodeA → Option NodeA) (hself48 : ∀ (q : NodeA) (r : NodeA), self48 q = some r → Cn Tryz.prog 48 [aggV q.enc] (aggV r.enc)) (p0 : NodeA) (r : NodeA) (h : tree_Copy_body K self48 p0 = some r) : Co Tryz.prog 48 [aggV p0.enc] (.agg [.d (.val (.int .i64 r.op)), .d (.val (.string r.name)), .d (.val (.bool r.num.neg)), .d (slD u32V r.num.num), .d (slD u32V r.num.den), accV 0 6 ((r.kids.map NodeA.enc).map (·.map .d))]) (accO 6 ((r.kids.map NodeA.enc).map (·.map .d))) := by
 refine Co.ofA mixed Tryz.func48 rfl Tryz.call48 Tryz.ntmps48 Tryz.results48 (by simp) datO_acc (by simp only [go_sem, reduceEqDiff, reduceAdd, reduceSub, reduceMul, reduceLeDiff, reduceLT, Nat.reduceBEq, reduceIte]) fun hfit => ?_
 unfold tree_Copy_body at h
 refine AW.kp [] [0] ?_
 refine AW.op mixed ?_
 refine AW.kp [0, 1] [1, 2] ?_
 refine AW.op mixed ?_
 refine AW.kp [0, 1, 11] [1, 2, 3] ?_
 refine AW.one ?_
 refine obindE h fun oJ2 h hJ2 => ?_
 refine AW.join (S := (List Int)) (fun v1_0 => [(1, .ptr 0 6 0 0), (2, .ptr 1 6 0 0), (3, .ptr 2 6 0 0)]) (fun v1_0 => [some ⟨6, [[.d (.val (.int .i64 p0.op)), .d (.val (.string p0.name)), .d (.val (.bool p0.num.neg)), .d (slD u32V p0.num.num), .d (slD u32V p0.num.den), .d (slD NodeA.enc p0.kids)]]⟩, some ⟨6, [[.d (.val (.int .i64 (0 : Int))), .d (.val (.string (⟨#[]⟩ : ByteArray))), .d (.val (.bool false)), .d (.val (.slice none 0 0)), .d (.val (.slice none 0 0)), .d (.val (.slice none 0 0))]]⟩, some ⟨6, [[.d (.val (.int .i64 p0.op)), .d (.val (.string p0.name)), .d (.val (.bool p0.num.neg)), .d (slD u32V v1_0), .d (.val (.slice none 0 0)), .d (.val (.slice none 0 0))]]⟩]) (fun x => x = oJ2) ?_ ?_
 ·skip
  refine AW.op mixed ?_
  refine AW.kp [0, 1, 2] [1, 2, 3, 20] ?_
  refine AW.ts (decide ((0 : Int) < (p0.num.num.length : Int))) (fun hb3 => ?_) (fun hb3 => ?_)
  ·have h := ifT hb3 h
   refine AW.rg mixed ?_
   apply obindE h; intro l4 hx5 h
   refine appD hx5 rfl (by simp only [go_sem, reduceEqDiff, reduceAdd, reduceSub, reduceMul, reduceLeDiff, reduceLT, Nat.reduceBEq, reduceIte]) ?_
   try simp only [go_sem, reduceEqDiff, reduceAdd, reduceSub, reduceMul, reduceLeDiff, reduceLT, Nat.reduceBEq, reduceIte]
   exact JoinQ.ar l4 [0, 1, 2] (Option.some.inj h)
  have h := ifF hb3 h
  refine AW.sk ?_
  refine JoinQ.mkS [] [0, 1, 2] [] [] [(2, ⟨6, [[.d (.val (.int .i64 p0.op)), .d (.val (.string p0.name)), .d (.val (.bool p0.num.neg)), .d (slD u32V []), .d (.val (.slice none 0 0)), .d (.val (.slice none 0 0))]]⟩)] (Option.some.inj h) (by simp only [go_sem, reduceEqDiff, reduceAdd, reduceSub, reduceMul, reduceLeDiff, reduceLT, Nat.reduceBEq, reduceIte, sealL_cons, sealL_nil]) (by simp only [go_sem, reduceEqDiff, reduceAdd, reduceSub, reduceMul, reduceLeDiff, reduceLT, Nat.reduceBEq, reduceIte, sealH_cons, sealH_nil]; exact ⟨⟨.same _, .same _, .same _, .nil, .same _, .same _, trivial⟩, trivial⟩) (by simp only [go_sem, reduceEqDiff, reduceAdd, reduceSub, reduceMul, reduceLeDiff, reduceLT, Nat.reduceBEq, reduceIte])
 rintro v1_0 rfl
 have h := hJ2
 try dsimp only [Out.fin] at h
 refine nz ?_
 refine AW.one ?_
 refine obindE h fun oJ7 h hJ7 => ?_
 refine AW.join (S := (List Int)) (fun v6_0 => [(1, .ptr 0 6 0 0), (2, .ptr 1 6 0 0), (3, .ptr 2 6 0 0)]) (fun v6_0 => [some ⟨6, [[.d (.val (.int .i64 p0.op)), .d (.val (.string p0.name)), .d (.val (.bool p0.num.neg)), .d (slD u32V p0.num.num), .d (slD u32V p0.num.den), .d (slD NodeA.enc p0.kids)]]⟩, some ⟨6, [[.d (.val (.int .i64 (0 : Int))), .d (.val (.string (⟨#[]⟩ : ByteArray))), .d (.val (.bool false)), .d (.val (.slice none 0 0)), .d (.val (.slice none 0 0)), .d (.val (.slice none 0 0))]]⟩, some ⟨6, [[.d (.val (.int .i64 p0.op)), .d (.val (.string p0.name)), .d (.val (.bool p0.num.neg)), .d (slD u32V v1_0), .d (slD u32V v6_0), .d (.val (.slice none 0 0))]]⟩]) (fun x => x = oJ7) ?_ ?_
 ·skip
  refine AW.op mixed ?_
  refine AW.kp [0, 1, 2] [1, 2, 3, 31] ?_
  refine AW.ts (decide ((0 : Int) < (p0.num.den.length : Int))) (fun hb8 => ?_) (fun hb8 => ?_)
  ·have h := ifT hb8 h
   refine AW.rg mixed ?_
   apply obindE h; intro l9 hx10 h
   refine appD hx10 rfl (by simp only [go_sem, reduceEqDiff, reduceAdd, reduceSub, reduceMul, reduceLeDiff, reduceLT, Nat.reduceBEq, reduceIte]) ?_
   try simp only [go_sem, reduceEqDiff, reduceAdd, reduceSub, reduceMul, reduceLeDiff, reduceLT, Nat.reduceBEq, reduceIte]
   exact JoinQ.ar l9 [0, 1, 2] (Option.some.inj h)
  have h := ifF hb8 h
  refine AW.sk ?_
  refine JoinQ.mkS [] [0, 1, 2] [] [] [(2, ⟨6, [[.d (.val (.int .i64 p0.op)), .d (.val (.string p0.name)), .d (.val (.bool p0.num.neg)), .d (slD u32V v1_0), .d (slD u32V []), .d (.val (.slice none 0 0))]]⟩)] (Option.some.inj h) (by simp only [go_sem, reduceEqDiff, reduceAdd, reduceSub, reduceMul, reduceLeDiff, reduceLT, Nat.reduceBEq, reduceIte, sealL_cons, sealL_nil]) (by simp only [go_sem, reduceEqDiff, reduceAdd, reduceSub, reduceMul, reduceLeDiff, reduceLT, Nat.reduceBEq, reduceIte, sealH_cons, sealH_nil]; exact ⟨⟨.same _, .same _, .same _, .same _, .nil, .same _, trivial⟩, trivial⟩) (by simp only [go_sem, reduceEqDiff, reduceAdd, reduceSub, reduceMul, reduceLeDiff, reduceLT, Nat.reduceBEq, reduceIte])
 rintro v6_0 rfl
 have h := hJ7
 try dsimp only [Out.fin] at h
 refine nz ?_
 refine AW.one ?_
 refine AW.op mixed ?_
 refine AW.kp [1, 2] [2, 3, 39, 40, 41] ?_
 refine obindE h fun oJ14 h hJ14 => ?_
 refine AW.join (S := (List NodeA)) (fun e12_0 => [(2, .ptr 0 6 0 0), (3, .ptr 1 6 0 0)]) (fun e12_0 => [some ⟨6, [[.d (.val (.int .i64 (0 : Int))), .d (.val (.string (⟨#[]⟩ : ByteArray))), .d (.val (.bool false)), .d (.val (.slice none 0 0)), .d (.val (.slice none 0 0)), .d (.val (.slice none 0 0))]]⟩, some ⟨6, [[.d (.val (.int .i64 p0.op)), .d (.val (.string p0.name)), .d (.val (.bool p0.num.neg)), .d (slD u32V v1_0), .d (slD u32V v6_0), accV 2 6 ((e12_0.map NodeA.enc).map (·.map .d))]]⟩, accO 6 ((e12_0.map NodeA.enc).map (·.map .d))]) (fun x => x = oJ14) ?_ ?_
 ·refine AW.block ?_
  refine AW.iter (S := Int × (List NodeA)) (fun (i11_0, i11_1) => [(2, .ptr 0 6 0 0), (3, .ptr 1 6 0 0), (39, .d (slD NodeA.enc p0.kids)), (40, .d (.val (.int .i64 (p0.kids.length : Int)))), (41, .d (.val (.int .i64 i11_0)))]) (fun (i11_0, i11_1) => [some ⟨6, [[.d (.val (.int .i64 (0 : Int))), .d (.val (.string (⟨#[]⟩ : ByteArray))), .d (.val (.bool false)), .d (.val (.slice none 0 0)), .d (.val (.slice none 0 0)), .d (.val (.slice none 0 0))]]⟩, some ⟨6, [[.d (.val (.int .i64 p0.op)), .d (.val (.string p0.name)), .d (.val (.bool p0.num.neg)), .d (slD u32V v1_0), .d (slD u32V v6_0), accV 2 6 ((i11_1.map NodeA.enc).map (·.map .d))]]⟩, accO 6 ((i11_1.map NodeA.enc).map (·.map .d))]) [0, 1, 1002] h (by simp only [go_sem, reduceEqDiff, reduceAdd, reduceSub, reduceMul, reduceLeDiff, reduceLT, Nat.reduceBEq, reduceIte]) ?_
  rintro again ⟨i11_0, i11_1⟩ h
  try dsimp only at h
  refine AW.op mixed ?_
  refine AW.cu [0, 1, 2] [(2, .ptr 0 6 0 0), (3, .ptr 1 6 0 0), (39, .d (slD NodeA.enc p0.kids)), (40, .d (.val (.int .i64 (p0.kids.length : Int)))), (41, .d (.val (.int .i64 i11_0))), (42, .d (.val (.bool (decide (i11_0 < (p0.kids.length : Int))))))] [some ⟨6, [[.d (.val (.int .i64 (0 : Int))), .d (.val (.string (⟨#[]⟩ : ByteArray))), .d (.val (.bool false)), .d (.val (.slice none 0 0)), .d (.val (.slice none 0 0)), .d (.val (.slice none 0 0))]]⟩, some ⟨6, [[.d (.val (.int .i64 p0.op)), .d (.val (.string p0.name)), .d (.val (.bool p0.num.neg)), .d (slD u32V v1_0), .d (slD u32V v6_0), accV 2 6 ((i11_1.map NodeA.enc).map (·.map .d))]]⟩, accO 6 ((i11_1.map NodeA.enc).map (·.map .d))] ?_
  refine AW.one ?_
  refine AW.ts (decide (i11_0 < (p0.kids.length : Int))) (fun hb15 => ?_) (fun hb15 => ?_)
  ·have h := ifT hb15 h
   refine AW.sk ?_
   refine AW.cu [0, 1, 2] [(2, .ptr 0 6 0 0), (3, .ptr 1 6 0 0), (39, .d (slD NodeA.enc p0.kids)), (40, .d (.val (.int .i64 (p0.kids.length : Int)))), (41, .d (.val (.int .i64 i11_0)))] [some ⟨6, [[.d (.val (.int .i64 (0 : Int))), .d (.val (.string (⟨#[]⟩ : ByteArray))), .d (.val (.bool false)), .d (.val (.slice none 0 0)), .d (.val (.slice none 0 0)), .d (.val (.slice none 0 0))]]⟩, some ⟨6, [[.d (.val (.int .i64 p0.op)), .d (.val (.string p0.name)), .d (.val (.bool p0.num.neg)), .d (slD u32V v1_0), .d (slD u32V v6_0), accV 2 6 ((i11_1.map NodeA.enc).map (·.map .d))]]⟩, accO 6 ((i11_1.map NodeA.enc).map (·.map .d))] ?_
   refine AW.one ?_
   refine AW.block ?_
   refine AW.one ?_
   refine AW.reg mixed (by kernel_rfl) ?_
   apply obindE h; intro x16 hx17 h
   try simp only [go_sem, reduceEqDiff, reduceAdd, reduceSub, reduceMul, reduceLeDiff, reduceLT, Nat.reduceBEq, reduceIte, (idx_some hx17).1, (idx_some hx17).2]
   refine AW.cut [0, 1, 2, 5] [(2, .ptr 0 6 0 0), (3, .ptr 1 6 0 0), (5, .ptr 3 6 0 0), (39, .d (slD NodeA.enc p0.kids)), (40, .d (.val (.int .i64 (p0.kids.length : Int)))), (41, .d (.val (.int .i64 i11_0)))] [some ⟨6, [[.d (.val (.int .i64 (0 : Int))), .d (.val (.string (⟨#[]⟩ : ByteArray))), .d (.val (.bool false)), .d (.val (.slice none 0 0)), .d (.val (.slice none 0 0)), .d (.val (.slice none 0 0))]]⟩, some ⟨6, [[.d (.val (.int .i64 p0.op)), .d (.val (.string p0.name)), .d (.val (.bool p0.num.neg)), .d (slD u32V v1_0), .d (slD u32V v6_0), accV 2 6 ((i11_1.map NodeA.enc).map (·.map .d))]]⟩, accO 6 ((i11_1.map NodeA.enc).map (·.map .d)), some ⟨6, [[.d (.val (.int .i64 x16.op)), .d (.val (.string x16.name)), .d (.val (.bool x16.num.neg)), .d (slD u32V x16.num.num), .d (slD u32V x16.num.den), .d (slD NodeA.enc x16.kids)]]⟩] (by simp only [go_sem, reduceEqDiff, reduceAdd, reduceSub, reduceMul, reduceLeDiff, reduceLT, Nat.reduceBEq, reduceIte, (idx_some hx17).1, (idx_some hx17).2]) ?_
   refine AW.op mixed ?_
   apply obindE h; intro r18 hx19 h
   have hc := nx (hself48 _ _ hx19)
   refine callP hc ?_
   refine AW.cu [0, 1, 2, 6] [(2, .ptr 0 6 0 0), (3, .ptr 1 6 0 0), (6, .ptr 3 6 0 0), (39, .d (slD NodeA.enc p0.kids)), (40, .d (.val (.int .i64 (p0.kids.length : Int)))), (41, .d (.val (.int .i64 i11_0)))] [some ⟨6, [[.d (.val (.int .i64 (0 : Int))), .d (.val (.string (⟨#[]⟩ : ByteArray))), .d (.val (.bool false)), .d (.val (.slice none 0 0)), .d (.val (.slice none 0 0)), .d (.val (.slice none 0 0))]]⟩, some ⟨6, [[.d (.val (.int .i64 p0.op)), .d (.val (.string p0.name)), .d (.val (.bool p0.num.neg)), .d (slD u32V v1_0), .d (slD u32V v6_0), accV 2 6 ((i11_1.map NodeA.enc).map (·.map .d))]]⟩, accO 6 ((i11_1.map NodeA.enc).map (·.map .d)), some ⟨6, [[.d (.val (.int .i64 r18.op)), .d (.val (.string r18.name)), .d (.val (.bool r18.num.neg)), .d (slD u32V r18.num.num), .d (slD u32V r18.num.den), .d (slD NodeA.enc r18.kids)]]⟩] ?_
   refine AW.rg mixed ?_
   apply obindE h; intro l20 hx21 h
   refine appG hx21 rfl (by simp only [go_sem, reduceEqDiff, reduceAdd, reduceSub, reduceMul, reduceLeDiff, reduceLT, Nat.reduceBEq, reduceIte]) (by simp only [go_sem, reduceEqDiff, reduceAdd, reduceSub, reduceMul, reduceLeDiff, reduceLT, Nat.reduceBEq, reduceIte]) (by simp only [go_sem, reduceEqDiff, reduceAdd, reduceSub, reduceMul, reduceLeDiff, reduceLT, Nat.reduceBEq, reduceIte]) (by simp) ?_
   try simp only [go_sem, reduceEqDiff, reduceAdd, reduceSub, reduceMul, reduceLeDiff, reduceLT, Nat.reduceBEq, reduceIte]
   refine AW.cu [0, 1, 8] [(2, .ptr 0 6 0 0), (3, .ptr 1 6 0 0), (39, .d (slD NodeA.enc p0.kids)), (40, .d (.val (.int .i64 (p0.kids.length : Int)))), (41, .d (.val (.int .i64 i11_0)))] [some ⟨6, [[.d (.val (.int .i64 (0 : Int))), .d (.val (.string (⟨#[]⟩ : ByteArray))), .d (.val (.bool false)), .d (.val (.slice none 0 0)), .d (.val (.slice none 0 0)), .d (.val (.slice none 0 0))]]⟩, some ⟨6, [[.d (.val (.int .i64 p0.op)), .d (.val (.string p0.name)), .d (.val (.bool p0.num.neg)), .d (slD u32V v1_0), .d (slD u32V v6_0), accV 2 6 ((l20.map NodeA.enc).map (·.map .d))]]⟩, accO 6 ((l20.map NodeA.enc).map (·.map .d))] ?_
   refine AW.rg mixed ?_
   exact NextQ.ar (IntKind.wrap .i64 (i11_0 + (1 : Int)), l20) [0, 1, 2] h
  have h := ifF hb15 h
  refine AW.ex ?_
  exact JoinQ.ar i11_1 [0, 1, 2] (Option.some.inj h)
 rintro e12_0 rfl
 have h := hJ14
 try dsimp only [Out.fin] at h
 refine nz ?_
 refine AW.cu [0, 1, 2] [(2, .ptr 0 6 0 0), (3, .ptr 1 6 0 0)] [some ⟨6, [[.d (.val (.int .i64 (0 : Int))), .d (.val (.string (⟨#[]⟩ : ByteArray))), .d (.val (.bool false)), .d (.val (.slice none 0 0)), .d (.val (.slice none 0 0)), .d (.val (.slice none 0 0))]]⟩, some ⟨6, [[.d (.val (.int .i64 p0.op)), .d (.val (.string p0.name)), .d (.val (.bool p0.num.neg)), .d (slD u32V v1_0), .d (slD u32V v6_0), accV 2 6 ((e12_0.map NodeA.enc).map (·.map .d))]]⟩, accO 6 ((e12_0.map NodeA.enc).map (·.map .d))] ?_
 refine AW.op mixed ?_
 refine AW.ret ?_
 obtain rfl := Option.some.inj h
 refine nz ?_
 refine OwnRes.mk 2 (nz ?_) (by simp only [go_sem, reduceEqDiff, reduceAdd, reduceSub, reduceMul, reduceLeDiff, reduceLT, Nat.reduceBEq, reduceIte])
 exact .same _
theorem tree_Copy_step (K : Nat) (self48 : NodeA → Option NodeA) (hself48 : ∀ (q : NodeA) (r : NodeA), self48 q = some r → Cn Tryz.prog 48 [aggV q.enc] (aggV r.enc)) (p0 : NodeA) (r : NodeA) (h : tree_Copy_body K self48 p0 = some r) : Cn Tryz.prog 48 [aggV p0.enc] (aggV r.enc) := by
 refine Cn.ofCo (tree_Copy_stepO K _ hself48 p0 r h) (nz ?_) (by simp only [go_sem, reduceEqDiff, reduceAdd, reduceSub, reduceMul, reduceLeDiff, reduceLT, Nat.reduceBEq, reduceIte])
 exact .aggL ⟨.same _, .same _, .same _, .same _, .same _, sealAcc (by simp only [go_sem, reduceEqDiff, reduceAdd, reduceSub, reduceMul, reduceLeDiff, reduceLT, Nat.reduceBEq, reduceIte]), trivial⟩
def tree_Copy (K : Nat) (p0 : NodeA) : Option NodeA := iter K (fun self q => tree_Copy_body K self q) p0
theorem key_tree_Copy {K : Nat} (k : Nat) : (∀ (q : NodeA) (r : NodeA), iter k (fun self q => tree_Copy_body K self q) q = some r → Cn Tryz.prog 48 [aggV q.enc] (aggV r.enc)) := by
 induction k with
 | zero => exact fun q r h => by cases h
 | succ k ih => exact fun q r h => tree_Copy_step K _ ih q r h
theorem tree_Copy_own {K : Nat} {p0 : NodeA} {r : NodeA} (h : tree_Copy K p0 = some r) : Co Tryz.prog 48 [aggV p0.enc] (.agg [.d (.val (.int .i64 r.op)), .d (.val (.string r.name)), .d (.val (.bool r.num.neg)), .d (slD u32V r.num.num), .d (slD u32V r.num.den), accV 0 6 ((r.kids.map NodeA.enc).map (·.map .d))]) (accO 6 ((r.kids.map NodeA.enc).map (·.map .d))) := by
 unfold tree_Copy at h
 have key : ∀ k, iter k (fun self q => tree_Copy_body K self q) p0 = some r → Co Tryz.prog 48 [aggV p0.enc] (.agg [.d (.val (.int .i64 r.op)), .d (.val (.string r.name)), .d (.val (.bool r.num.neg)), .d (slD u32V r.num.num), .d (slD u32V r.num.den), accV 0 6 ((r.kids.map NodeA.enc).map (·.map .d))]) (accO 6 ((r.kids.map NodeA.enc).map (·.map .d))) := fun k h => by
  cases k with
  | zero => cases h
  | succ k => exact tree_Copy_stepO K _ (key_tree_Copy k) p0 r h
 exact key K h
/-! ### isochrone/subst.put -/
def subst_put_body (K : Nat) (self59 : (NodeA × NodeA) → Option NodeA) (p0 : NodeA) (p1 : NodeA) : Option NodeA := if (p0.op == (13 : Int)) then
  (tree_Copy K p1).bind fun r2 =>
  some r2
 else
  (tree_Copy K (NodeA.mk p0.op p0.name p0.num [])).bind fun r4 =>
  ((iter (S := Int × (List NodeA)) (R := (List NodeA)) K (fun again (i6_0, i6_1) =>
   if (decide (i6_0 < (p0.kids.length : Int))) then
    (idx p0.kids i6_0).bind fun x11 =>
    (self59 (x11, p1)).bind fun r13 =>
    (appO 104 i6_1 [r13]).bind fun l15 =>
    again (IntKind.wrap .i64 (i6_0 + (1 : Int)), l15)
   else
    some i6_1) ((0 : Int), r4.kids)) : Option (List NodeA)).bind (fun e7_0 =>
  some (NodeA.mk r4.op r4.name r4.num e7_0))
set_option maxHeartbeats 4000000 in
theorem subst_put_step (K : Nat) (self59 : (NodeA × NodeA) → Option NodeA) (hself59 : ∀ (q : NodeA × NodeA) (r : NodeA), self59 q = some r → Cn Tryz.prog 59 [aggV q.1.enc, aggV q.2.enc] (aggV r.enc)) (p0 : NodeA) (p1 : NodeA) (r : NodeA) (h : subst_put_body K self59 p0 p1 = some r) : Cn Tryz.prog 59 [aggV p0.enc, aggV p1.enc] (aggV r.enc) := by
 refine Cn.oz Tryz.func59 Tryz.call59 Tryz.ntmps59 Tryz.results59 fun hfit => ?_
 unfold subst_put_body at h
 refine AW.kr [] [0, 1] ?_
 refine AW.ks [0, 1, 2] [2, 3, 4] ?_
 refine AW.one ?_
 refine AW.ro ?_
 refine AW.ks [0, 1, 2] [2, 3, 4, 11] ?_
 refine AW.tk h (fun hb1 h => ?_) fun hb1 h => ?_
 ·refine AW.ro ?_
  apply bE h; intro r2 hx3 h
  have hc := nx (tree_Copy_own (h := hx3))
  refine callK_own hc (by simp only [go_sem, reduceEqDiff, reduceAdd, reduceSub, reduceMul, reduceLeDiff, reduceLT, Nat.reduceBEq, reduceIte]) ?_
  refine ns ?_
  refine AW.ret ?_
  cases h; refine nz ?_; exact .aggL ⟨.same _, .same _, .same _, .same _, .same _, sealAcc (by simp only [go_sem, reduceEqDiff, reduceAdd, reduceSub, reduceMul, reduceLeDiff, reduceLT, Nat.reduceBEq, reduceIte]), trivial⟩
 refine AW.kr [0, 1, 2] [2, 3, 4] ?_
 apply bE h; intro r4 hx5 h
 have hc := nx (tree_Copy_own (h := hx5))
 refine callK_ownC hc ⟨.aggL ⟨.same _, .same _, .same _, .same _, .same _, .nil, trivial⟩, trivial⟩ (by simp only [go_sem, reduceEqDiff, reduceAdd, reduceSub, reduceMul, reduceLeDiff, reduceLT, Nat.reduceBEq, reduceIte]) ?_
 refine ns ?_
 refine AW.ks [0, 1, 2, 11, 10] [2, 3, 4, 5] ?_
 refine AW.one ?_
 refine AW.ro ?_
 refine AW.ks [1, 2, 3, 4] [3, 4, 5, 23, 24, 25] ?_
 refine AW.lm h (fun e7_0 => [(4, .ptr 0 6 0 0), (5, .ptr 1 6 0 0)]) (fun e7_0 => [some ⟨6, [[vI (0 : Int), vS (⟨#[]⟩ : ByteArray), vB false, .d (.val (.slice none 0 0)), .d (.val (.slice none 0 0)), .d (.val (.slice none 0 0))]]⟩, some ⟨6, [[vI r4.op, vS r4.name, vB r4.num.neg, vL u32V r4.num.num, vL u32V r4.num.den, accV 2 6 ((e7_0.map NodeA.enc).map (·.map .d))]]⟩, accO 6 ((e7_0.map NodeA.enc).map (·.map .d))]) (fun (i6_0, i6_1) => [(3, .ptr 0 6 0 0), (4, .ptr 1 6 0 0), (5, .ptr 2 6 0 0), (23, vL NodeA.enc p0.kids), (24, vI (p0.kids.length : Int)), (25, vI i6_0)]) (fun (i6_0, i6_1) => [vE p1.enc, some ⟨6, [[vI (0 : Int), vS (⟨#[]⟩ : ByteArray), vB false, .d (.val (.slice none 0 0)), .d (.val (.slice none 0 0)), .d (.val (.slice none 0 0))]]⟩, some ⟨6, [[vI r4.op, vS r4.name, vB r4.num.neg, vL u32V r4.num.num, vL u32V r4.num.den, accV 3 6 ((i6_1.map NodeA.enc).map (·.map .d))]]⟩, accO 6 ((i6_1.map NodeA.enc).map (·.map .d))]) [0, 1, 2, 3] (fun oJ9 again ⟨i6_0, i6_1⟩ h => ?_) fun e7_0 h => ?_
 ·try dsimp only at h
  refine AW.ro ?_
  refine AW.ks [0, 1, 2, 3] [3, 4, 5, 23, 24, 25, 26] ?_
  refine AW.one ?_
  refine AW.tt h (fun hb10 h => ?_) fun hb10 h => ?_
  ·refine AW.sk ?_
   refine AW.ks [0, 1, 2, 3] [3, 4, 5, 23, 24, 25] ?_
   refine AW.one ?_
   refine AW.block ?_
   refine AW.ro ?_
   refine bx h fun x11 h0 h1 h => ?_
   refine AW.kr [0, 1, 2, 3, 6] [3, 4, 5, 7, 23, 24, 25] ?_
   refine cm h (hself59 _ _) fun r13 hx14 h => ?_
   refine AW.ks [0, 1, 2, 3, 8] [3, 4, 5, 8, 23, 24, 25] ?_
   refine AW.rp ?_
   refine ag (f := NodeA.enc) h fun l15 hx16 h => ?_
   refine AW.ks [0, 1, 2, 9] [3, 4, 5, 23, 24, 25] ?_
   refine AW.rp ?_
   exact na [0, 1, 2, 3] h
  refine AW.ex ?_
  exact ja [1, 2, 3] h
 refine AW.kr [0, 1, 2] [4, 5] ?_
 refine AW.ret ?_
 cases h; refine nz ?_; exact .aggL ⟨.same _, .same _, .same _, .same _, .same _, sealAcc (by simp only [go_sem, reduceEqDiff, reduceAdd, reduceSub, reduceMul, reduceLeDiff, reduceLT, Nat.reduceBEq, reduceIte]), trivial⟩
def subst_put (K : Nat) (p0 : NodeA) (p1 : NodeA) : Option NodeA := iter K (fun self q => subst_put_body K self q.1 q.2) (p0, p1)
theorem key_subst_put {K : Nat} (k : Nat) : (∀ (q : NodeA × NodeA) (r : NodeA), iter k (fun self q => subst_put_body K self q.1 q.2) q = some r → Cn Tryz.prog 59 [aggV q.1.enc, aggV q.2.enc] (aggV r.enc)) := by
 induction k with
 | zero => exact fun q r h => by cases h
 | succ k ih => exact fun q r h => subst_put_step K _ ih q.1 q.2 r h
theorem subst_put_ok {K : Nat} {p0 : NodeA} {p1 : NodeA} {r : NodeA} (h : subst_put K p0 p1 = some r) : Cn Tryz.prog 59 [aggV p0.enc, aggV p1.enc] (aggV r.enc) := (key_subst_put K) (p0, p1) r h
/-! ### isochrone/static.SymbolsOf$1$1 -/
def static_SymbolsOf_1_1 (K : Nat) (p0 : Int) (p1 : List NodeA) (p2 : NodeA) : Option Bool := (idx p1 p0).bind fun x1 =>
 (tree_Compare K x1 p2).bind fun r3 =>
 some (decide ((0 : Int) ≤ r3))
set_option maxHeartbeats 4000000 in
theorem static_SymbolsOf_1_1_ok {K : Nat} {p0 : Int} {p1 : List NodeA} {p2 : NodeA} {r : Bool} (h : static_SymbolsOf_1_1 K p0 p1 p2 = some r) : Cn Tryz.prog 132 [.d (.val (.int .i64 p0)), .iptr [slD NodeA.enc p1], .iptr [.val (.int .i64 p2.op), .val (.string p2.name), .val (.bool p2.num.neg), slD u32V p2.num.num, slD u32V p2.num.den, slD NodeA.enc p2.kids]] (.d (.val (.bool r))) := by
 refine Cn.oz Tryz.func132 Tryz.call132 Tryz.ntmps132 Tryz.results132 fun hfit => ?_
 unfold static_SymbolsOf_1_1 at h
 refine AW.kr [] [0, 1, 2] ?_
 refine AW.kr [] [0, 1, 2] ?_
 refine bx h fun x1 h0 h1 h => ?_
 refine pm h tree_Compare_ok fun r3 hx4 h => ?_
 refine AW.ret ?_
 cases h; refine nz ?_; exact .same _
/-! ### sort.Search -/
def sort_Search_static_SymbolsOf_1_1 (K : Nat) (p0 : Int) (p1 : List NodeA) (p2 : NodeA) : Option Int := ((iter (S := Int × Int) (R := Int) K (fun again (i1_0, i1_1) =>
  if (decide (i1_0 < i1_1)) then
   (must (decide ((0 : Int) ≤ (1 : Int)))).bind fun _ =>
   (static_SymbolsOf_1_1 K (IntKind.wrap .i64 (bShr .u64 (IntKind.wrap .u64 (IntKind.wrap .i64 (i1_0 + i1_1))) (1 : Int))) p1 p2).bind fun r7 =>
   if (!r7) then
    again (IntKind.wrap .i64 ((IntKind.wrap .i64 (bShr .u64 (IntKind.wrap .u64 (IntKind.wrap .i64 (i1_0 + i1_1))) (1 : Int))) + (1 : Int)), i1_1)
   else
    again (i1_0, IntKind.wrap .i64 (bShr .u64 (IntKind.wrap .u64 (IntKind.wrap .i64 (i1_0 + i1_1))) (1 : Int)))
  else
   some i1_0) ((0 : Int), p0)) : Option Int).bind (fun e2_0 =>
 some e2_0)
set_option maxHeartbeats 4000000 in
theorem sort_Search_static_SymbolsOf_1_1_ok {K : Nat} {p0 : Int} {p1 : List NodeA} {p2 : NodeA} {r : Int} (h : sort_Search_static_SymbolsOf_1_1 K p0 p1 p2 = some r) : Cn Tryz.prog 131 [.d (.val (.int .i64 p0)), .fn 132 [.iptr [slD NodeA.enc p1], .iptr [.val (.int .i64 p2.op), .val (.string p2.name), .val (.bool p2.num.neg), slD u32V p2.num.num, slD u32V p2.num.den, slD NodeA.enc p2.kids]]] (.d (.val (.int .i64 r))) := by
 have q0 := fun k z => cv_int (k' := k) (z := z) Tryz.underlying143 Tryz.underlying3
 have q1 := fun k z => cv_int (k' := k) (z := z) Tryz.underlying3 Tryz.underlying143
 refine Cn.oz Tryz.func131 Tryz.call131 Tryz.ntmps131 Tryz.results131 fun hfit => ?_
 unfold sort_Search_static_SymbolsOf_1_1 at h
 refine AW.kr [] [0, 1] ?_
 refine AW.kr [] [0, 1] ?_
 refine AW.ks [] [1, 5, 6] ?_
 refine AW.ln h (fun e2_0 => [(5, vI e2_0)]) (fun e2_0 => []) (fun (i1_0, i1_1) => [(1, .fn 132 [.iptr [slD NodeA.enc p1], .iptr [.val (.int .i64 p2.op), .val (.string p2.name), .val (.bool p2.num.neg), slD u32V p2.num.num, slD u32V p2.num.den, slD NodeA.enc p2.kids]]), (5, vI i1_0), (6, vI i1_1)]) (fun (i1_0, i1_1) => []) [] (fun oJ4 again ⟨i1_0, i1_1⟩ h => ?_) fun e2_0 h => ?_
 ·try dsimp only at h
  refine AW.one ?_
  refine AW.ro ?_
  refine AW.ks [] [1, 5, 6, 11] ?_
  refine AW.tt h (fun hb5 h => ?_) fun hb5 h => ?_
  ·refine AW.sk ?_
   refine AW.ks [] [1, 5, 6] ?_
   refine AW.block ?_
   refine AW.ro ?_
   apply bE h; intro _ hx6 h; have hx6 := ms hx6; refine ns ?_
   refine AW.kr [] [1, 5, 6, 7] ?_
   refine cm h static_SymbolsOf_1_1_ok fun r7 hx8 h => ?_
   refine AW.ks [] [1, 5, 6, 7, 21] ?_
   refine AW.tt h (fun hb9 h => ?_) fun hb9 h => ?_
   ·refine AW.rp ?_
    exact na [] h
   refine AW.rp ?_
   exact na [] h
  refine AW.ex ?_
  exact ja [] h
 refine AW.kr [] [5] ?_
 refine AW.ret ?_
 cases h; refine nz ?_; exact .same _
/-! ### isochrone/static.SymbolsOf$1 -/
def static_SymbolsOf_1_body (K : Nat) (self130 : (NodeA × (Option (List NodeA))) → Option (Option (List NodeA))) (p0 : NodeA) (p1 : Option (List NodeA)) : Option (Option (List NodeA)) := ((
  (static_symbol K p0).bind fun r3 =>
  if r3.2 then
   (sort_Search_static_SymbolsOf_1_1 K ((p1.getD []).length : Int) (p1.getD []) r3.1).bind fun r6 =>
   ((
    if (r6 == ((p1.getD []).length : Int)) then
     some true
    else
     (idx (p1.getD []) r6).bind fun x11 =>
     (tree_Equal K x11 r3.1).bind fun r13 =>
     some (!r13)) : Option Bool).bind (fun v8_0 =>
   if v8_0 then
    (appO 104 (p1.getD []) [(NodeA.mk (0 : Int) (⟨#[]⟩ : ByteArray) (RatA.mk false [] []) [])]).bind fun l16 =>
    (idx l16 ((p1.getD []).length : Int)).bind fun x18 =>
    (subO (some (l16.set ((p1.getD []).length) (NodeA.mk (0 : Int) (⟨#[]⟩ : ByteArray) (RatA.mk false [] []) []))) (IntKind.wrap .i64 (r6 + (1 : Int)))).bind fun l21 =>
    (subO (some (l16.set ((p1.getD []).length) (NodeA.mk (0 : Int) (⟨#[]⟩ : ByteArray) (RatA.mk false [] []) []))) r6).bind fun l23 =>
    (idx (cpyL (l16.set ((p1.getD []).length) (NodeA.mk (0 : Int) (⟨#[]⟩ : ByteArray) (RatA.mk false [] []) [])) (IntKind.wrap .i64 (r6 + (1 : Int))) l21 l23) r6).bind fun x24 =>
    some (some ((cpyL (l16.set ((p1.getD []).length) (NodeA.mk (0 : Int) (⟨#[]⟩ : ByteArray) (RatA.mk false [] []) [])) (IntKind.wrap .i64 (r6 + (1 : Int))) l21 l23).set (r6.toNat) r3.1))
   else
    some p1)
  else
   some p1) : Option (Option (List NodeA))).bind (fun v1_0 =>
 ((iter (S := Int × (Option (List NodeA))) (R := (Option (List NodeA))) K (fun again (i26_0, i26_1) =>
  if (decide (i26_0 < (p0.kids.length : Int))) then
   (idx p0.kids i26_0).bind fun x31 =>
   (self130 (x31, i26_1)).bind fun r33 =>
   again (IntKind.wrap .i64 (i26_0 + (1 : Int)), r33)
  else
   some i26_1) ((0 : Int), v1_0)) : Option (Option (List NodeA))).bind (fun e27_0 =>
 some e27_0))
set_option maxHeartbeats 4000000 in
theorem static_SymbolsOf_1_step (K : Nat) (self130 : (NodeA × (Option (List NodeA))) → Option (Option (List NodeA))) (hself130 : ∀ (q : NodeA × (Option (List NodeA))) (r : (Option (List NodeA))), self130 q = some r → Cm Tryz.prog 130 [aggV q.1.enc, .ptr 0 1 0 0, .ptr 1 1 0 0] 2 ([some ⟨1, [[gV 2 6 q.2]]⟩, some ⟨1, [[.fn 130 [.ptr 0 1 0 0, .ptr 1 1 0 0]]]⟩] ++ [gO NodeA.enc 6 q.2]) (.tup []) ([some ⟨1, [[gV 2 6 r]]⟩, some ⟨1, [[.fn 130 [.ptr 0 1 0 0, .ptr 1 1 0 0]]]⟩] ++ [gO NodeA.enc 6 r])) (p0 : NodeA) (p1 : Option (List NodeA)) (r : (Option (List NodeA))) (h : static_SymbolsOf_1_body K self130 p0 p1 = some r) : Cm Tryz.prog 130 [aggV p0.enc, .ptr 0 1 0 0, .ptr 1 1 0 0] 2 ([some ⟨1, [[gV 2 6 p1]]⟩, some ⟨1, [[.fn 130 [.ptr 0 1 0 0, .ptr 1 1 0 0]]]⟩] ++ [gO NodeA.enc 6 p1]) (.tup []) ([some ⟨1, [[gV 2 6 r]]⟩, some ⟨1, [[.fn 130 [.ptr 0 1 0 0, .ptr 1 1 0 0]]]⟩] ++ [gO NodeA.enc 6 r]) := by
 refine Cm.ofA mixed Tryz.func130 rfl Tryz.call130 Tryz.ntmps130 Tryz.results130 (by simp) rfl rfl (by simp only [go_sem, reduceEqDiff, reduceAdd, reduceSub, reduceMul, reduceLeDiff, reduceLT, Nat.reduceBEq, reduceIte, List.length_cons]) (by simp only [go_sem, reduceEqDiff, reduceAdd, reduceSub, reduceMul, reduceLeDiff, reduceLT, Nat.reduceBEq, reduceIte]) (by simp only [go_sem, reduceEqDiff, reduceAdd, reduceSub, reduceMul, reduceLeDiff, reduceLT, Nat.reduceBEq, reduceIte]) (by simp only [go_sem, reduceEqDiff, reduceAdd, reduceSub, reduceMul, reduceLeDiff, reduceLT, Nat.reduceBEq, reduceIte]) datO_g datO_g fun hfit => ?_
 unfold static_SymbolsOf_1_body at h
 refine AW.cu [0, 1, 2] [(0, .agg [.d (.val (.int .i64 p0.op)), .d (.val (.string p0.name)), .d (.val (.bool p0.num.neg)), .d (slD u32V p0.num.num), .d (slD u32V p0.num.den), .d (slD NodeA.enc p0.kids)]), (1, .ptr 0 1 0 0), (2, .ptr 1 1 0 0)] [some ⟨1, [[gV 2 6 p1]]⟩, some ⟨1, [[.fn 130 [.ptr 0 1 0 0, .ptr 1 1 0 0]]]⟩, gO NodeA.enc 6 p1] ?_
 refine AW.op mixed ?_
 refine AW.cu [0, 1, 2, 3] [(1, .ptr 0 1 0 0), (2, .ptr 1 1 0 0), (3, .ptr 3 6 0 0)] [some ⟨1, [[gV 2 6 p1]]⟩, some ⟨1, [[.fn 130 [.ptr 0 1 0 0, .ptr 1 1 0 0]]]⟩, gO NodeA.enc 6 p1, some ⟨6, [[.d (.val (.int .i64 p0.op)), .d (.val (.string p0.name)), .d (.val (.bool p0.num.neg)), .d (slD u32V p0.num.num), .d (slD u32V p0.num.den), .d (slD NodeA.enc p0.kids)]]⟩] ?_
 refine AW.one ?_
 refine obindE h fun oJ2 h hJ2 => ?_
 refine AW.join (S := (Option (List NodeA))) (fun v1_0 => [(2, .ptr 1 1 0 0), (3, .ptr 2 6 0 0)]) (fun v1_0 => [some ⟨1, [[gV 3 6 v1_0]]⟩, some ⟨1, [[.fn 130 [.ptr 0 1 0 0, .ptr 1 1 0 0]]]⟩, some ⟨6, [[.d (.val (.int .i64 p0.op)), .d (.val (.string p0.name)), .d (.val (.bool p0.num.neg)), .d (slD u32V p0.num.num), .d (slD u32V p0.num.den), .d (slD NodeA.enc p0.kids)]]⟩, gO NodeA.enc 6 v1_0]) (fun x => x = oJ2) ?_ ?_
 ·skip
  refine AW.op mixed ?_
  apply obindE h; intro r3 hx4 h
  have hc := nx (static_symbol_ok (h := hx4))
  refine callP hc ?_
  refine AW.cu [0, 1, 2, 3, 9] [(1, .ptr 0 1 0 0), (2, .ptr 1 1 0 0), (3, .ptr 3 6 0 0), (4, .ptr 4 6 0 0), (5, .d (.val (.bool r3.2)))] [some ⟨1, [[gV 2 6 p1]]⟩, some ⟨1, [[.fn 130 [.ptr 0 1 0 0, .ptr 1 1 0 0]]]⟩, gO NodeA.enc 6 p1, some ⟨6, [[.d (.val (.int .i64 p0.op)), .d (.val (.string p0.name)), .d (.val (.bool p0.num.neg)), .d (slD u32V p0.num.num), .d (slD u32V p0.num.den), .d (slD NodeA.enc p0.kids)]]⟩, some ⟨6, [[.d (.val (.int .i64 r3.1.op)), .d (.val (.string r3.1.name)), .d (.val (.bool r3.1.num.neg)), .d (slD u32V r3.1.num.num), .d (slD u32V r3.1.num.den), .d (slD NodeA.enc r3.1.kids)]]⟩] ?_
  refine AW.op mixed ?_
  refine AW.cu [0, 1, 2, 3, 4] [(1, .ptr 0 1 0 0), (2, .ptr 1 1 0 0), (3, .ptr 3 6 0 0), (4, .ptr 4 6 0 0), (14, .d (.val (.bool r3.2)))] [some ⟨1, [[gV 2 6 p1]]⟩, some ⟨1, [[.fn 130 [.ptr 0 1 0 0, .ptr 1 1 0 0]]]⟩, gO NodeA.enc 6 p1, some ⟨6, [[.d (.val (.int .i64 p0.op)), .d (.val (.string p0.name)), .d (.val (.bool p0.num.neg)), .d (slD u32V p0.num.num), .d (slD u32V p0.num.den), .d (slD NodeA.enc p0.kids)]]⟩, some ⟨6, [[.d (.val (.int .i64 r3.1.op)), .d (.val (.string r3.1.name)), .d (.val (.bool r3.1.num.neg)), .d (slD u32V r3.1.num.num), .d (slD u32V r3.1.num.den), .d (slD NodeA.enc r3.1.kids)]]⟩] ?_
  refine AW.ts r3.2 (fun hb5 => ?_) (fun hb5 => ?_)
  ·have h := ifT hb5 h
   refine AW.op mixed ?_
   apply obindE h; intro r6 hx7 h
   have hc := nx (sort_Search_static_SymbolsOf_1_1_ok (h := hx7))
   refine callK_look hc ⟨.same _, .fnL ⟨sealPtrG (o := 2) (n := 6) (x := p1) (by simp only [go_sem, reduceEqDiff, reduceAdd, reduceSub, reduceMul, reduceLeDiff, reduceLT, Nat.reduceBEq, reduceIte]) (by simp only [go_sem, reduceEqDiff, reduceAdd, reduceSub, reduceMul, reduceLeDiff, reduceLT, Nat.reduceBEq, reduceIte]), sealPtr (by simp only [go_sem, reduceEqDiff, reduceAdd, reduceSub, reduceMul, reduceLeDiff, reduceLT, Nat.reduceBEq, reduceIte]), trivial⟩, trivial⟩ (by simp only [go_sem, reduceEqDiff, reduceAdd, reduceSub, reduceMul, reduceLeDiff, reduceLT, Nat.reduceBEq, reduceIte]) (by simp [V.flat, V.flatL]) ?_
   try simp only [go_sem, reduceEqDiff, reduceAdd, reduceSub, reduceMul, reduceLeDiff, reduceLT, Nat.reduceBEq, reduceIte]
   refine AW.cu [0, 1, 2, 3, 4] [(1, .ptr 0 1 0 0), (2, .ptr 1 1 0 0), (3, .ptr 3 6 0 0), (4, .ptr 4 6 0 0), (6, .d (.val (.int .i64 r6)))] [some ⟨1, [[gV 2 6 p1]]⟩, some ⟨1, [[.fn 130 [.ptr 0 1 0 0, .ptr 1 1 0 0]]]⟩, gO NodeA.enc 6 p1, some ⟨6, [[.d (.val (.int .i64 p0.op)), .d (.val (.string p0.name)), .d (.val (.bool p0.num.neg)), .d (slD u32V p0.num.num), .d (slD u32V p0.num.den), .d (slD NodeA.enc p0.kids)]]⟩, some ⟨6, [[.d (.val (.int .i64 r3.1.op)), .d (.val (.string r3.1.name)), .d (.val (.bool r3.1.num.neg)), .d (slD u32V r3.1.num.num), .d (slD u32V r3.1.num.den), .d (slD NodeA.enc r3.1.kids)]]⟩] ?_
   refine AW.one ?_
   refine obindE h fun oJ9 h hJ9 => ?_
   refine AW.join (S := Bool) (fun v8_0 => [(1, .ptr 0 1 0 0), (2, .ptr 1 1 0 0), (3, .ptr 2 6 0 0), (4, .ptr 3 6 0 0), (6, .d (.val (.int .i64 r6))), (31, .d (.val (.bool v8_0)))]) (fun v8_0 => [some ⟨1, [[gV 4 6 p1]]⟩, some ⟨1, [[.fn 130 [.ptr 0 1 0 0, .ptr 1 1 0 0]]]⟩, some ⟨6, [[.d (.val (.int .i64 p0.op)), .d (.val (.string p0.name)), .d (.val (.bool p0.num.neg)), .d (slD u32V p0.num.num), .d (slD u32V p0.num.den), .d (slD NodeA.enc p0.kids)]]⟩, some ⟨6, [[.d (.val (.int .i64 r3.1.op)), .d (.val (.string r3.1.name)), .d (.val (.bool r3.1.num.neg)), .d (slD u32V r3.1.num.num), .d (slD u32V r3.1.num.den), .d (slD NodeA.enc r3.1.kids)]]⟩, gO NodeA.enc 6 p1]) (fun x => x = oJ9) ?_ ?_
   ·skip
    refine AW.rg mixed ?_
    refine splitK_intro (fun hb10 => ?_) (fun hb10 => ?_)
    ·have h := ifT hb10 h
     try simp only [go_sem, reduceEqDiff, reduceAdd, reduceSub, reduceMul, reduceLeDiff, reduceLT, Nat.reduceBEq, reduceIte, hb10]
     refine JoinQ.mk true [0, 1, 3, 4, 2] (Option.some.inj h) (by simp only [go_sem, reduceEqDiff, reduceAdd, reduceSub, reduceMul, reduceLeDiff, reduceLT, Nat.reduceBEq, reduceIte, hb10])
    have h := ifF hb10 h
    try simp only [go_sem, reduceEqDiff, reduceAdd, reduceSub, reduceMul, reduceLeDiff, reduceLT, Nat.reduceBEq, reduceIte, hb10]
    apply obindE h; intro x11 hx12 h
    try simp only [go_sem, reduceEqDiff, reduceAdd, reduceSub, reduceMul, reduceLeDiff, reduceLT, Nat.reduceBEq, reduceIte, hb10, (idx_some hx12).1, idx_lt hx12, (idx_some hx12).2, gV_idx (x := p1) hx12, gO_idx (x := p1) hx12]
    apply obindE h; intro r13 hx14 h
    have hc := nx (tree_Equal_ok (h := hx14))
    refine pcallK_intro hc (by simp only [go_sem, reduceEqDiff, reduceAdd, reduceSub, reduceMul, reduceLeDiff, reduceLT, Nat.reduceBEq, reduceIte]) ?_
    try simp only [go_sem, reduceEqDiff, reduceAdd, reduceSub, reduceMul, reduceLeDiff, reduceLT, Nat.reduceBEq, reduceIte, hb10, (idx_some hx12).1, idx_lt hx12, (idx_some hx12).2, gV_idx (x := p1) hx12, gO_idx (x := p1) hx12]
    refine JoinQ.mk (!r13) [0, 1, 3, 4, 2] (Option.some.inj h) (by simp only [go_sem, reduceEqDiff, reduceAdd, reduceSub, reduceMul, reduceLeDiff, reduceLT, Nat.reduceBEq, reduceIte, hb10, (idx_some hx12).1, idx_lt hx12, (idx_some hx12).2, gV_idx (x := p1) hx12, gO_idx (x := p1) hx12])
   rintro v8_0 rfl
   have h := hJ9
   try dsimp only [Out.fin] at h
   refine nz ?_
   refine AW.ts v8_0 (fun hb15 => ?_) (fun hb15 => ?_)
   ·have h := ifT hb15 h
    refine AW.one ?_
    refine AW.reg2 (xp := .tmp 37) (xq := .tmp 1) mixed (by kernel_rfl) rfl rfl ?_
    try simp only [go_sem, reduceEqDiff, reduceAdd, reduceSub, reduceMul, reduceLeDiff, reduceLT, Nat.reduceBEq, reduceIte]
    apply obindE h; intro l16 hx17 h
    refine appNil (b := .sl [[.val (.int .i64 (0 : Int)), .val (.string (⟨#[]⟩ : ByteArray)), .val (.bool false), slD u32V [], slD u32V [], slD NodeA.enc []]]) (.rows (by (try simp only [slD, NodeA.enc_eta, RatA.enc_eta, NodeA.op_mk, NodeA.name_mk, NodeA.num_mk, NodeA.kids_mk, aggV, i64V, u32V, strV, List.map_cons, List.map_nil]); exact ⟨⟨.refl _, .refl _, .refl _, .nil _ _, .nil _ _, .nil _ _, trivial⟩, trivial⟩)) ?_
    refine appX (f := NodeA.enc) (x := p1) hx17 rfl (by simp only [go_sem, reduceEqDiff, reduceAdd, reduceSub, reduceMul, reduceLeDiff, reduceLT, Nat.reduceBEq, reduceIte]) (by simp only [go_sem, reduceEqDiff, reduceAdd, reduceSub, reduceMul, reduceLeDiff, reduceLT, Nat.reduceBEq, reduceIte]) (by simp only [go_sem, reduceEqDiff, reduceAdd, reduceSub, reduceMul, reduceLeDiff, reduceLT, Nat.reduceBEq, reduceIte]) (by simp) ?_
    try simp only [go_sem, reduceEqDiff, reduceAdd, reduceSub, reduceMul, reduceLeDiff, reduceLT, Nat.reduceBEq, reduceIte]
    apply obindE h; intro x18 hx19 h
    try simp only [go_sem, reduceEqDiff, reduceAdd, reduceSub, reduceMul, reduceLeDiff, reduceLT, Nat.reduceBEq, reduceIte, (idx_some hx19).1, idx_lt hx19, (idx_nat.symm.trans hx19), gV_idx (x := (some l16)) hx19, gO_idx (x := (some l16)) hx19]
    refine AW.cutS [0, 1, 9, 2, 3] [] [] [(9, ⟨6, ((l16.set ((p1.getD []).length) (NodeA.mk (0 : Int) (⟨#[]⟩ : ByteArray) (RatA.mk false [] []) [])).map NodeA.enc).map (·.map .d)⟩)] [(1, .ptr 0 1 0 0), (2, .ptr 1 1 0 0), (3, .ptr 3 6 0 0), (4, .ptr 4 6 0 0), (6, .d (.val (.int .i64 r6)))] [some ⟨1, [[gV 2 6 (some (l16.set ((p1.getD []).length) (NodeA.mk (0 : Int) (⟨#[]⟩ : ByteArray) (RatA.mk false [] []) [])))]]⟩, some ⟨1, [[.fn 130 [.ptr 0 1 0 0, .ptr 1 1 0 0]]]⟩, gO NodeA.enc 6 (some (l16.set ((p1.getD []).length) (NodeA.mk (0 : Int) (⟨#[]⟩ : ByteArray) (RatA.mk false [] []) []))), some ⟨6, [[.d (.val (.int .i64 p0.op)), .d (.val (.string p0.name)), .d (.val (.bool p0.num.neg)), .d (slD u32V p0.num.num), .d (slD u32V p0.num.den), .d (slD NodeA.enc p0.kids)]]⟩, some ⟨6, [[.d (.val (.int .i64 r3.1.op)), .d (.val (.string r3.1.name)), .d (.val (.bool r3.1.num.neg)), .d (slD u32V r3.1.num.num), .d (slD u32V r3.1.num.den), .d (slD NodeA.enc r3.1.kids)]]⟩] (by simp only [go_sem, reduceEqDiff, reduceAdd, reduceSub, reduceMul, reduceLeDiff, reduceLT, Nat.reduceBEq, reduceIte, (idx_some hx19).1, idx_lt hx19, (idx_nat.symm.trans hx19), gV_idx (x := (some l16)) hx19, gO_idx (x := (some l16)) hx19, gV_some, gO_some, List.length_set, sealL_cons, sealL_nil]) (by simp only [go_sem, reduceEqDiff, reduceAdd, reduceSub, reduceMul, reduceLeDiff, reduceLT, Nat.reduceBEq, reduceIte, (idx_some hx19).1, idx_lt hx19, (idx_nat.symm.trans hx19), gV_idx (x := (some l16)) hx19, gO_idx (x := (some l16)) hx19, gV_some, gO_some, List.length_set, sealH_cons, sealH_nil]; exact sealSetE (by (try simp only [slD, NodeA.enc_eta, RatA.enc_eta, NodeA.op_mk, NodeA.name_mk, NodeA.num_mk, NodeA.kids_mk, aggV, i64V, u32V, strV, List.map_cons, List.map_nil]); exact ⟨.same _, .same _, .same _, .nil, .nil, .nil, trivial⟩)) (by simp only [go_sem, reduceEqDiff, reduceAdd, reduceSub, reduceMul, reduceLeDiff, reduceLT, Nat.reduceBEq, reduceIte, (idx_some hx19).1, idx_lt hx19, (idx_nat.symm.trans hx19), gV_idx (x := (some l16)) hx19, gO_idx (x := (some l16)) hx19, gV_some, gO_some, List.length_set]) ?_
    refine AW.op mixed ?_
    apply obindE h; intro l21 hx20 h
    refine subX (x := (some (l16.set ((p1.getD []).length) (NodeA.mk (0 : Int) (⟨#[]⟩ : ByteArray) (RatA.mk false [] []) [])))) hx20 es25 ?_
    try simp only [go_sem, reduceEqDiff, reduceAdd, reduceSub, reduceMul, reduceLeDiff, reduceLT, Nat.reduceBEq, reduceIte]
    apply obindE h; intro l23 hx22 h
    refine subX (x := (some (l16.set ((p1.getD []).length) (NodeA.mk (0 : Int) (⟨#[]⟩ : ByteArray) (RatA.mk false [] []) [])))) hx22 es25 ?_
    try simp only [go_sem, reduceEqDiff, reduceAdd, reduceSub, reduceMul, reduceLeDiff, reduceLT, Nat.reduceBEq, reduceIte]
    refine cpyX (x := (some (l16.set ((p1.getD []).length) (NodeA.mk (0 : Int) (⟨#[]⟩ : ByteArray) (RatA.mk false [] []) [])))) (f := NodeA.enc) hx20 hx22 (by simp only [go_sem, reduceEqDiff, reduceAdd, reduceSub, reduceMul, reduceLeDiff, reduceLT, Nat.reduceBEq, reduceIte]) fun _ => ?_
    try simp only [go_sem, reduceEqDiff, reduceAdd, reduceSub, reduceMul, reduceLeDiff, reduceLT, Nat.reduceBEq, reduceIte, gV_cpy hx20]
    refine AW.cut [0, 1, 2, 3, 4] [(1, .ptr 0 1 0 0), (2, .ptr 1 1 0 0), (3, .ptr 3 6 0 0), (4, .ptr 4 6 0 0), (6, .d (.val (.int .i64 r6)))] [some ⟨1, [[gV 2 6 (some (cpyL (l16.set ((p1.getD []).length) (NodeA.mk (0 : Int) (⟨#[]⟩ : ByteArray) (RatA.mk false [] []) [])) (IntKind.wrap .i64 (r6 + (1 : Int))) l21 l23))]]⟩, some ⟨1, [[.fn 130 [.ptr 0 1 0 0, .ptr 1 1 0 0]]]⟩, gO NodeA.enc 6 (some (cpyL (l16.set ((p1.getD []).length) (NodeA.mk (0 : Int) (⟨#[]⟩ : ByteArray) (RatA.mk false [] []) [])) (IntKind.wrap .i64 (r6 + (1 : Int))) l21 l23)), some ⟨6, [[.d (.val (.int .i64 p0.op)), .d (.val (.string p0.name)), .d (.val (.bool p0.num.neg)), .d (slD u32V p0.num.num), .d (slD u32V p0.num.den), .d (slD NodeA.enc p0.kids)]]⟩, some ⟨6, [[.d (.val (.int .i64 r3.1.op)), .d (.val (.string r3.1.name)), .d (.val (.bool r3.1.num.neg)), .d (slD u32V r3.1.num.num), .d (slD u32V r3.1.num.den), .d (slD NodeA.enc r3.1.kids)]]⟩] (by simp only [go_sem, reduceEqDiff, reduceAdd, reduceSub, reduceMul, reduceLeDiff, reduceLT, Nat.reduceBEq, reduceIte, gV_cpy hx20]) ?_
    refine AW.rg mixed ?_
    apply obindE h; intro x24 hx25 h
    try simp only [go_sem, reduceEqDiff, reduceAdd, reduceSub, reduceMul, reduceLeDiff, reduceLT, Nat.reduceBEq, reduceIte, (idx_some hx25).1, idx_lt hx25, (idx_some hx25).2, gV_idx (x := (some (cpyL (l16.set ((p1.getD []).length) (NodeA.mk (0 : Int) (⟨#[]⟩ : ByteArray) (RatA.mk false [] []) [])) (IntKind.wrap .i64 (r6 + (1 : Int))) l21 l23))) hx25, gO_idx (x := (some (cpyL (l16.set ((p1.getD []).length) (NodeA.mk (0 : Int) (⟨#[]⟩ : ByteArray) (RatA.mk false [] []) [])) (IntKind.wrap .i64 (r6 + (1 : Int))) l21 l23))) hx25, gV_some, gO_some, List.length_set, (rows_set (l := (cpyL (l16.set ((p1.getD []).length) (NodeA.mk (0 : Int) (⟨#[]⟩ : ByteArray) (RatA.mk false [] []) [])) (IntKind.wrap .i64 (r6 + (1 : Int))) l21 l23)) (f := NodeA.enc) (i := r6.toNat) (v' := r3.1) (row := [.d (.val (.int .i64 r3.1.op)), .d (.val (.string r3.1.name)), .d (.val (.bool r3.1.num.neg)), .d (slD u32V r3.1.num.num), .d (slD u32V r3.1.num.den), .d (slD NodeA.enc r3.1.kids)]) (by simp only [go_sem, reduceEqDiff, reduceAdd, reduceSub, reduceMul, reduceLeDiff, reduceLT, Nat.reduceBEq, reduceIte]))]
    refine JoinQ.mk (some ((cpyL (l16.set ((p1.getD []).length) (NodeA.mk (0 : Int) (⟨#[]⟩ : ByteArray) (RatA.mk false [] []) [])) (IntKind.wrap .i64 (r6 + (1 : Int))) l21 l23).set (r6.toNat) r3.1)) [0, 1, 3, 2] (Option.some.inj h) (by simp only [go_sem, reduceEqDiff, reduceAdd, reduceSub, reduceMul, reduceLeDiff, reduceLT, Nat.reduceBEq, reduceIte, (idx_some hx25).1, idx_lt hx25, (idx_some hx25).2, gV_idx (x := (some (cpyL (l16.set ((p1.getD []).length) (NodeA.mk (0 : Int) (⟨#[]⟩ : ByteArray) (RatA.mk false [] []) [])) (IntKind.wrap .i64 (r6 + (1 : Int))) l21 l23))) hx25, gO_idx (x := (some (cpyL (l16.set ((p1.getD []).length) (NodeA.mk (0 : Int) (⟨#[]⟩ : ByteArray) (RatA.mk false [] []) [])) (IntKind.wrap .i64 (r6 + (1 : Int))) l21 l23))) hx25, gV_some, gO_some, List.length_set, (rows_set (l := (cpyL (l16.set ((p1.getD []).length) (NodeA.mk (0 : Int) (⟨#[]⟩ : ByteArray) (RatA.mk false [] []) [])) (IntKind.wrap .i64 (r6 + (1 : Int))) l21 l23)) (f := NodeA.enc) (i := r6.toNat) (v' := r3.1) (row := [.d (.val (.int .i64 r3.1.op)), .d (.val (.string r3.1.name)), .d (.val (.bool r3.1.num.neg)), .d (slD u32V r3.1.num.num), .d (slD u32V r3.1.num.den), .d (slD NodeA.enc r3.1.kids)]) (by simp only [go_sem, reduceEqDiff, reduceAdd, reduceSub, reduceMul, reduceLeDiff, reduceLT, Nat.reduceBEq, reduceIte]))])
   have h := ifF hb15 h
   refine AW.sk ?_
   exact JoinQ.ar p1 [0, 1, 2, 4] (Option.some.inj h)
  have h := ifF hb5 h
  refine AW.sk ?_
  exact JoinQ.ar p1 [0, 1, 3, 2] (Option.some.inj h)
 rintro v1_0 rfl
 have h := hJ2
 try dsimp only [Out.fin] at h
 refine nz ?_
 refine AW.op mixed ?_
 refine AW.cu [0, 1, 3] [(2, .ptr 1 1 0 0), (51, .d (slD NodeA.enc p0.kids)), (52, .d (.val (.int .i64 (p0.kids.length : Int)))), (53, .d (.val (.int .i64 (0 : Int))))] [some ⟨1, [[gV 2 6 v1_0]]⟩, some ⟨1, [[.fn 130 [.ptr 0 1 0 0, .ptr 1 1 0 0]]]⟩, gO NodeA.enc 6 v1_0] ?_
 refine obindE h fun oJ29 h hJ29 => ?_
 refine AW.join (S := (Option (List NodeA))) (fun e27_0 => []) (fun e27_0 => [some ⟨1, [[gV 2 6 e27_0]]⟩, some ⟨1, [[.fn 130 [.ptr 0 1 0 0, .ptr 1 1 0 0]]]⟩, gO NodeA.enc 6 e27_0]) (fun x => x = oJ29) ?_ ?_
 ·refine AW.block ?_
  refine AW.iter (S := Int × (Option (List NodeA))) (fun (i26_0, i26_1) => [(2, .ptr 1 1 0 0), (51, .d (slD NodeA.enc p0.kids)), (52, .d (.val (.int .i64 (p0.kids.length : Int)))), (53, .d (.val (.int .i64 i26_0)))]) (fun (i26_0, i26_1) => [some ⟨1, [[gV 2 6 i26_1]]⟩, some ⟨1, [[.fn 130 [.ptr 0 1 0 0, .ptr 1 1 0 0]]]⟩, gO NodeA.enc 6 i26_1]) [0, 1, 2] h (by simp only [go_sem, reduceEqDiff, reduceAdd, reduceSub, reduceMul, reduceLeDiff, reduceLT, Nat.reduceBEq, reduceIte]) ?_
  rintro again ⟨i26_0, i26_1⟩ h
  try dsimp only at h
  refine AW.op mixed ?_
  refine AW.cu [0, 1, 2] [(2, .ptr 1 1 0 0), (51, .d (slD NodeA.enc p0.kids)), (52, .d (.val (.int .i64 (p0.kids.length : Int)))), (53, .d (.val (.int .i64 i26_0))), (54, .d (.val (.bool (decide (i26_0 < (p0.kids.length : Int))))))] [some ⟨1, [[gV 2 6 i26_1]]⟩, some ⟨1, [[.fn 130 [.ptr 0 1 0 0, .ptr 1 1 0 0]]]⟩, gO NodeA.enc 6 i26_1] ?_
  refine AW.one ?_
  refine AW.ts (decide (i26_0 < (p0.kids.length : Int))) (fun hb30 => ?_) (fun hb30 => ?_)
  ·have h := ifT hb30 h
   refine AW.sk ?_
   refine AW.cu [0, 1, 2] [(2, .ptr 1 1 0 0), (51, .d (slD NodeA.enc p0.kids)), (52, .d (.val (.int .i64 (p0.kids.length : Int)))), (53, .d (.val (.int .i64 i26_0)))] [some ⟨1, [[gV 2 6 i26_1]]⟩, some ⟨1, [[.fn 130 [.ptr 0 1 0 0, .ptr 1 1 0 0]]]⟩, gO NodeA.enc 6 i26_1] ?_
   refine AW.one ?_
   refine AW.block ?_
   refine AW.one ?_
   refine AW.reg mixed (by kernel_rfl) ?_
   apply obindE h; intro x31 hx32 h
   try simp only [go_sem, reduceEqDiff, reduceAdd, reduceSub, reduceMul, reduceLeDiff, reduceLT, Nat.reduceBEq, reduceIte, (idx_some hx32).1, (idx_some hx32).2]
   refine AW.cut [0, 1, 2, 5] [(2, .ptr 1 1 0 0), (8, .ptr 3 6 0 0), (51, .d (slD NodeA.enc p0.kids)), (52, .d (.val (.int .i64 (p0.kids.length : Int)))), (53, .d (.val (.int .i64 i26_0)))] [some ⟨1, [[gV 2 6 i26_1]]⟩, some ⟨1, [[.fn 130 [.ptr 0 1 0 0, .ptr 1 1 0 0]]]⟩, gO NodeA.enc 6 i26_1, some ⟨6, [[.d (.val (.int .i64 x31.op)), .d (.val (.string x31.name)), .d (.val (.bool x31.num.neg)), .d (slD u32V x31.num.num), .d (slD u32V x31.num.den), .d (slD NodeA.enc x31.kids)]]⟩] (by simp only [go_sem, reduceEqDiff, reduceAdd, reduceSub, reduceMul, reduceLeDiff, reduceLT, Nat.reduceBEq, reduceIte, (idx_some hx32).1, (idx_some hx32).2]) ?_
   refine AW.rg mixed ?_
   apply obindE h; intro r33 hx34 h
   have hc := nx (hself130 _ _ hx34)
   refine callK_grow [0, 1] 2 hc (by simp only [go_sem, reduceEqDiff, reduceAdd, reduceSub, reduceMul, reduceLeDiff, reduceLT, Nat.reduceBEq, reduceIte] <;> rfl) (by simp) (by simp) (by simp only [go_sem, reduceEqDiff, reduceAdd, reduceSub, reduceMul, reduceLeDiff, reduceLT, Nat.reduceBEq, reduceIte]) ?_
   try simp only [go_sem, reduceEqDiff, reduceAdd, reduceSub, reduceMul, reduceLeDiff, reduceLT, Nat.reduceBEq, reduceIte]
   refine AW.cu [0, 1, 6] [(2, .ptr 1 1 0 0), (51, .d (slD NodeA.enc p0.kids)), (52, .d (.val (.int .i64 (p0.kids.length : Int)))), (53, .d (.val (.int .i64 i26_0)))] [some ⟨1, [[gV 2 6 r33]]⟩, some ⟨1, [[.fn 130 [.ptr 0 1 0 0, .ptr 1 1 0 0]]]⟩, gO NodeA.enc 6 r33] ?_
   refine AW.rg mixed ?_
   exact NextQ.ar (IntKind.wrap .i64 (i26_0 + (1 : Int)), r33) [0, 1, 2] h
  have h := ifF hb30 h
  refine AW.ex ?_
  exact JoinQ.ar i26_1 [0, 1, 2] (Option.some.inj h)
 rintro e27_0 rfl
 have h := hJ29
 try dsimp only [Out.fin] at h
 refine nz ?_
 obtain rfl := Option.some.inj h
 refine nz ?_
 refine EndM.mk 2 (by decide) (by simp only [go_sem, reduceEqDiff, reduceAdd, reduceSub, reduceMul, reduceLeDiff, reduceLT, Nat.reduceBEq, reduceIte]) (ns ?_)
 exact ⟨.same _, ⟨⟨.same _, trivial⟩, trivial⟩, ⟨⟨.same _, trivial⟩, trivial⟩⟩
def static_SymbolsOf_1 (K : Nat) (p0 : NodeA) (p1 : Option (List NodeA)) : Option (Option (List NodeA)) := iter K (fun self q => static_SymbolsOf_1_body K self q.1 q.2) (p0, p1)
theorem key_static_SymbolsOf_1 {K : Nat} (k : Nat) : (∀ (q : NodeA × (Option (List NodeA))) (r : (Option (List NodeA))), iter k (fun self q => static_SymbolsOf_1_body K self q.1 q.2) q = some r → Cm Tryz.prog 130 [aggV q.1.enc, .ptr 0 1 0 0, .ptr 1 1 0 0] 2 ([some ⟨1, [[gV 2 6 q.2]]⟩, some ⟨1, [[.fn 130 [.ptr 0 1 0 0, .ptr 1 1 0 0]]]⟩] ++ [gO NodeA.enc 6 q.2]) (.tup []) ([some ⟨1, [[gV 2 6 r]]⟩, some ⟨1, [[.fn 130 [.ptr 0 1 0 0, .ptr 1 1 0 0]]]⟩] ++ [gO NodeA.enc 6 r])) := by
 induction k with
 | zero => exact fun q r h => by cases h
 | succ k ih => exact fun q r h => static_SymbolsOf_1_step K _ ih q.1 q.2 r h
theorem static_SymbolsOf_1_ok {K : Nat} {p0 : NodeA} {p1 : Option (List NodeA)} {r : (Option (List NodeA))} (h : static_SymbolsOf_1 K p0 p1 = some r) : Cm Tryz.prog 130 [aggV p0.enc, .ptr 0 1 0 0, .ptr 1 1 0 0] 2 ([some ⟨1, [[gV 2 6 p1]]⟩, some ⟨1, [[.fn 130 [.ptr 0 1 0 0, .ptr 1 1 0 0]]]⟩] ++ [gO NodeA.enc 6 p1]) (.tup []) ([some ⟨1, [[gV 2 6 r]]⟩, some ⟨1, [[.fn 130 [.ptr 0 1 0 0, .ptr 1 1 0 0]]]⟩] ++ [gO NodeA.enc 6 r]) := (key_static_SymbolsOf_1 K) (p0, p1) r h
/-! ### isochrone/static.SymbolsOf -/
def static_SymbolsOf (K : Nat) (p0 : NodeA) : Option (List NodeA) := (static_SymbolsOf_1 K p0 none).bind fun r1 =>
 some (r1.getD [])
set_option maxHeartbeats 4000000 in
theorem static_SymbolsOf_ok {K : Nat} {p0 : NodeA} {r : (List NodeA)} (h : static_SymbolsOf K p0 = some r) : Cn Tryz.prog 85 [aggV p0.enc] (.d (slD NodeA.enc r)) := by
 refine Cn.oz Tryz.func85 Tryz.call85 Tryz.ntmps85 Tryz.results85 fun hfit => ?_
 unfold static_SymbolsOf at h
 refine AW.kr [] [0] ?_
 refine AW.kr [0] [1] ?_
 refine AW.kr [0, 1] [1, 3] ?_
 refine AW.kr [0, 1, 2] [1, 3, 4] ?_
 refine AW.kr [0, 1, 2] [1, 3, 4] ?_
 apply bE h; intro r1 hx2 h
 have hc := nx (static_SymbolsOf_1_ok (h := hx2))
 refine callK_grow [1, 2] 1000 hc (by simp only [go_sem, reduceEqDiff, reduceAdd, reduceSub, reduceMul, reduceLeDiff, reduceLT, Nat.reduceBEq, reduceIte] <;> rfl) (by simp) (by simp) (by simp only [go_sem, reduceEqDiff, reduceAdd, reduceSub, reduceMul, reduceLeDiff, reduceLT, Nat.reduceBEq, reduceIte]) ?_
 refine ns ?_
 refine AW.kr [1, 5] [3] ?_
 refine AW.ret ?_
 cases h; refine nz ?_; exact sealG (by simp only [go_sem, reduceEqDiff, reduceAdd, reduceSub, reduceMul, reduceLeDiff, reduceLT, Nat.reduceBEq, reduceIte])
/-! ### (*isochrone/subst.walker).stop -/
def subst_walker_stop (K : Nat) (p0 : Subst_walkerA) : Option Subst_walkerA := (appO 8 ([] : List Int) (p0.path.getD [])).bind fun l1 =>
 some (Subst_walkerA.mk p0.pairs p0.path l1 true p0.great)
set_option maxHeartbeats 4000000 in
theorem subst_walker_stop_ok {K : Nat} {p0 : Subst_walkerA} {r : Subst_walkerA} (h : subst_walker_stop K p0 = some r) : Cm Tryz.prog 57 [.ptr 0 5 0 0] 1 ([some ⟨5, [[.d (slD Api_PairA.enc p0.pairs), gV 1 1 p0.path, .d (slD i64V p0.clash), .d (.val (.bool p0.found)), .d (.val (.bool p0.great))]]⟩] ++ [gO i64V 1 p0.path]) (.tup []) ([some ⟨5, [[.d (slD Api_PairA.enc r.pairs), gV 1 1 r.path, .d (slD i64V r.clash), .d (.val (.bool r.found)), .d (.val (.bool r.great))]]⟩] ++ [gO i64V 1 r.path]) := by
 refine Cm.ofA mixed Tryz.func57 rfl Tryz.call57 Tryz.ntmps57 Tryz.results57 (by simp) rfl rfl (by simp only [go_sem, reduceEqDiff, reduceAdd, reduceSub, reduceMul, reduceLeDiff, reduceLT, Nat.reduceBEq, reduceIte, List.length_cons]) (by simp only [go_sem, reduceEqDiff, reduceAdd, reduceSub, reduceMul, reduceLeDiff, reduceLT, Nat.reduceBEq, reduceIte]) (by simp only [go_sem, reduceEqDiff, reduceAdd, reduceSub, reduceMul, reduceLeDiff, reduceLT, Nat.reduceBEq, reduceIte]) (by simp only [go_sem, reduceEqDiff, reduceAdd, reduceSub, reduceMul, reduceLeDiff, reduceLT, Nat.reduceBEq, reduceIte]) datO_g datO_g fun hfit => ?_
 unfold subst_walker_stop at h
 refine AW.cu [0, 1] [(0, .ptr 0 5 0 0)] [some ⟨5, [[.d (slD Api_PairA.enc p0.pairs), gV 1 1 p0.path, .d (slD i64V p0.clash), .d (.val (.bool p0.found)), .d (.val (.bool p0.great))]]⟩, gO i64V 1 p0.path] ?_
 refine AW.op mixed ?_
 refine AW.cu [0, 1] [(0, .ptr 0 5 0 0)] [some ⟨5, [[.d (slD Api_PairA.enc p0.pairs), gV 1 1 p0.path, .d (slD i64V p0.clash), .d (.val (.bool true)), .d (.val (.bool p0.great))]]⟩, gO i64V 1 p0.path] ?_
 refine AW.rg mixed ?_
 apply obindE h; intro l1 hx2 h
 refine appR (f := i64V) hx2 rfl (by simp only [go_sem, reduceEqDiff, reduceAdd, reduceSub, reduceMul, reduceLeDiff, reduceLT, Nat.reduceBEq, reduceIte]) (srcRows_g (by simp only [go_sem, reduceEqDiff, reduceAdd, reduceSub, reduceMul, reduceLeDiff, reduceLT, Nat.reduceBEq, reduceIte])) (by simp only [go_sem, reduceEqDiff, reduceAdd, reduceSub, reduceMul, reduceLeDiff, reduceLT, Nat.reduceBEq, reduceIte]) ?_
 try simp only [go_sem, reduceEqDiff, reduceAdd, reduceSub, reduceMul, reduceLeDiff, reduceLT, Nat.reduceBEq, reduceIte]
 obtain rfl := Option.some.inj h
 refine nz ?_
 refine EndM.mk 1 (by decide) (by simp only [go_sem, reduceEqDiff, reduceAdd, reduceSub, reduceMul, reduceLeDiff, reduceLT, Nat.reduceBEq, reduceIte]) (ns ?_)
 exact ⟨.same _, ⟨⟨.same _, .same _, sealArr (by simp only [go_sem, reduceEqDiff, reduceAdd, reduceSub, reduceMul, reduceLeDiff, reduceLT, Nat.reduceBEq, reduceIte]), .same _, .same _, trivial⟩, trivial⟩⟩
end Go.Proofs.YtfnfjjgphhoigaaGreat
