/- Part of the proof of a law: contracts of the functions that the law reaches, or plain laws of them, out of the abstract layer (the texts YtphgabghcedphaaGreatDoorIso..). No condition. -/
import Derived.Test.YtphgabghcedphaaGreatDoorW
import Derived.Test.YtphgabghcedphaaGreatDoorIsoF
import Derived.Test.YtphgabghcedphaaGreatDoorLman
import Derived.Test.YtphgabghcedphaaGreatDoorShelf
import Derived.Test.YtphgabghcedphaaGreatDoorIsoV
open Nat (reduceEqDiff reduceAdd reduceSub reduceMul reduceLeDiff reduceLT)
namespace Go.Proofs.YtphgabghcedphaaGreatDoor
open Go Go.Iso Go.Proofs
set_option linter.unusedSimpArgs false
set_option linter.unusedVariables false
set_option maxRecDepth 100000
/-! ### isochrone/isochroneref08.less -/
def r08_less (K : Nat) (p0 : Int) (p1 : Int) : Option Int := if (decide (p0 < p1)) then
  some (-1 : Int)
 else
  if (decide (p1 < p0)) then
   some (1 : Int)
  else
   some (0 : Int)
set_option maxHeartbeats 4000000 in
theorem r08_less_ok {K : Nat} {p0 : Int} {p1 : Int} {r : Int} (h : r08_less K p0 p1 = some r) : Cn Tryz.prog 88 [.d (.val (.int .i64 p0)), .d (.val (.int .i64 p1))] (.d (.val (.int .i64 r))) := by
 refine Cn.oz Tryz.func88 Tryz.call88 Tryz.ntmps88 Tryz.results88 fun hfit => ?_
 unfold r08_less at h
 refine AW.kr [] [0, 1] ?_
 refine AW.ks [] [0, 1] ?_
 refine AW.one ?_
 refine AW.ro ?_
 refine AW.ks [] [0, 1, 7] ?_
 refine AW.tk h (fun hb1 h => ?_) fun hb1 h => ?_
 ·refine AW.ro ?_
  refine AW.ret ?_
  cases h; refine nz ?_; exact .same _
 refine AW.ks [] [0, 1] ?_
 refine AW.one ?_
 refine AW.ro ?_
 refine AW.ks [] [10] ?_
 refine AW.tk h (fun hb2 h => ?_) fun hb2 h => ?_
 ·refine AW.ro ?_
  refine AW.ret ?_
  cases h; refine nz ?_; exact .same _
 refine AW.kr [] [] ?_
 refine AW.ret ?_
 cases h; refine nz ?_; exact .same _
/-! ### isochrone/isochroneref08.words -/
def r08_words (K : Nat) (p0 : List Int) (p1 : List Int) : Option Int := if ((p0.length : Int) != (p1.length : Int)) then
  if (decide ((p0.length : Int) < (p1.length : Int))) then
   some (-1 : Int)
  else
   some (1 : Int)
 else
  ((iter (S := Int) (R := Out Unit _) K (fun again i3_0 =>
   if (decide ((0 : Int) ≤ i3_0)) then
    (idx p0 i3_0).bind fun x8 =>
    (idx p1 i3_0).bind fun x10 =>
    if (x8 != x10) then
     if (decide (x8 < x10)) then
      outM (
       some (-1 : Int))
     else
      outM (
       some (1 : Int))
    else
     again (IntKind.wrap .i64 (i3_0 - (1 : Int)))
   else
    some (.go ())) (IntKind.wrap .i64 ((p0.length : Int) - (1 : Int)))) : Option (Out Unit _)).bind (Out.fin fun _ =>
  some (0 : Int))
set_option maxHeartbeats 4000000 in
theorem r08_words_ok {K : Nat} {p0 : List Int} {p1 : List Int} {r : Int} (h : r08_words K p0 p1 = some r) : Cn Tryz.prog 89 [.d (slD u32V p0), .d (slD u32V p1)] (.d (.val (.int .i64 r))) := by
 refine Cn.oz Tryz.func89 Tryz.call89 Tryz.ntmps89 Tryz.results89 fun hfit => ?_
 unfold r08_words at h
 refine AW.kr [] [0, 1] ?_
 refine AW.ks [] [0, 1] ?_
 refine AW.one ?_
 refine AW.ro ?_
 refine AW.ks [] [0, 1, 10] ?_
 refine AW.tk h (fun hb1 h => ?_) fun hb1 h => ?_
 ·refine AW.one ?_
  refine AW.ro ?_
  refine AW.ks [] [15] ?_
  refine AW.tk h (fun hb2 h => ?_) fun hb2 h => ?_
  ·refine AW.ro ?_
   refine AW.ret ?_
   cases h; refine nz ?_; exact .same _
  refine AW.kr [] [] ?_
  refine AW.ret ?_
  cases h; refine nz ?_; exact .same _
 refine AW.ks [] [0, 1] ?_
 refine AW.one ?_
 refine AW.ro ?_
 refine AW.ks [] [0, 1, 5] ?_
 refine AW.lp h (fun _ => []) (fun _ => []) (fun i3_0 => [(0, vL u32V p0), (1, vL u32V p1), (5, vI i3_0)]) (fun i3_0 => []) [] (fun oJ6 hJ6 again i3_0 h => ?_) fun ⟨⟩ h => ?_
 ·refine AW.one ?_
  refine AW.ro ?_
  refine AW.ks [] [0, 1, 5, 20] ?_
  refine AW.tt h (fun hb7 h => ?_) fun hb7 h => ?_
  ·refine AW.sk ?_
   refine AW.ks [] [0, 1, 5] ?_
   refine AW.one ?_
   refine AW.block ?_
   refine AW.ro ?_
   refine bx h fun x8 h0 h1 h => ?_
   refine bx h fun x10 h0 h1 h => ?_
   refine AW.ks [] [0, 1, 5, 31] ?_
   refine AW.tk h (fun hb12 h => ?_) fun hb12 h => ?_
   ·refine AW.one ?_
    refine AW.ro ?_
    refine AW.ks [] [40] ?_
    refine AW.tk h (fun hb13 h => ?_) fun hb13 h => ?_
    ·refine AW.ro ?_
     refine AW.ret ?_
     have h := up h hJ6
     cases h; refine nz ?_; exact .same _
    refine AW.kr [] [] ?_
    refine AW.ret ?_
    have h := up h hJ6
    cases h; refine nz ?_; exact .same _
   refine AW.ks [] [0, 1, 5] ?_
   refine AW.rp ?_
   exact na [] h
  refine AW.ex ?_
  exact jo [] h
 refine AW.kr [] [] ?_
 refine AW.ret ?_
 cases h; refine nz ?_; exact .same _
/-! ### isochrone/isochroneref08.Compare -/
def r08_Compare_body (K : Nat) (self43 : (NodeA × NodeA) → Option Int) (p0 : NodeA) (p1 : NodeA) : Option Int := (r08_less K p0.op p1.op).bind fun r1 =>
 if (r1 != (0 : Int)) then
  some r1
 else
  if (!(p0.name.toList == p1.name.toList)) then
   if (Op.bytesLess p0.name.toList p1.name.toList) then
    some (-1 : Int)
   else
    some (1 : Int)
  else
   if (!(p0.num.neg == p1.num.neg)) then
    if p1.num.neg then
     some (-1 : Int)
    else
     some (1 : Int)
   else
    (r08_words K p0.num.num p1.num.num).bind fun r8 =>
    if (r8 != (0 : Int)) then
     some r8
    else
     (r08_words K p0.num.den p1.num.den).bind fun r11 =>
     if (r11 != (0 : Int)) then
      some r11
     else
      (r08_less K (p0.kids.length : Int) (p1.kids.length : Int)).bind fun r14 =>
      if (r14 != (0 : Int)) then
       some r14
      else
       ((iter (S := Int) (R := Out Unit _) K (fun again i17_0 =>
        if (decide (i17_0 < (p0.kids.length : Int))) then
         (idx p0.kids i17_0).bind fun x22 =>
         (idx p1.kids i17_0).bind fun x24 =>
         (self43 (x22, x24)).bind fun r26 =>
         if (r26 != (0 : Int)) then
          outM (
           some r26)
         else
          again (IntKind.wrap .i64 (i17_0 + (1 : Int)))
        else
         some (.go ())) (0 : Int)) : Option (Out Unit _)).bind (Out.fin fun _ =>
       some (0 : Int))
set_option maxHeartbeats 4000000 in
theorem r08_Compare_step (K : Nat) (self43 : (NodeA × NodeA) → Option Int) (hself43 : ∀ (q : NodeA × NodeA) (r : Int), self43 q = some r → Cn Tryz.prog 43 [aggV q.1.enc, aggV q.2.enc] (.d (.val (.int .i64 r)))) (p0 : NodeA) (p1 : NodeA) (r : Int) (h : r08_Compare_body K self43 p0 p1 = some r) : Cn Tryz.prog 43 [aggV p0.enc, aggV p1.enc] (.d (.val (.int .i64 r))) := by
 refine Cn.oz Tryz.func43 Tryz.call43 Tryz.ntmps43 Tryz.results43 fun hfit => ?_
 unfold r08_Compare_body at h
 refine AW.kr [] [0, 1] ?_
 refine AW.ks [0, 1] [2, 3] ?_
 refine AW.one ?_
 refine AW.ro ?_
 refine cm h r08_less_ok fun r1 hx2 h => ?_
 refine AW.kr [0, 1] [2, 3, 5] ?_
 refine AW.ks [0, 1] [2, 3, 5, 17] ?_
 refine AW.tk h (fun hb3 h => ?_) fun hb3 h => ?_
 ·refine AW.ro ?_
  refine AW.ret ?_
  cases h; refine nz ?_; exact .same _
 refine AW.ks [0, 1] [2, 3] ?_
 refine AW.one ?_
 refine AW.ro ?_
 refine AW.ks [0, 1] [2, 3, 23] ?_
 refine AW.tk h (fun hb4 h => ?_) fun hb4 h => ?_
 ·refine AW.one ?_
  refine AW.ro ?_
  refine AW.ks [] [28] ?_
  refine AW.tk h (fun hb5 h => ?_) fun hb5 h => ?_
  ·refine AW.ro ?_
   refine AW.ret ?_
   cases h; refine nz ?_; exact .same _
  refine AW.kr [] [] ?_
  refine AW.ret ?_
  cases h; refine nz ?_; exact .same _
 refine AW.ks [0, 1] [2, 3] ?_
 refine AW.one ?_
 refine AW.ro ?_
 refine AW.ks [0, 1] [2, 3, 35] ?_
 refine AW.tk h (fun hb6 h => ?_) fun hb6 h => ?_
 ·refine AW.one ?_
  refine AW.ro ?_
  refine AW.ks [] [38] ?_
  refine AW.tk h (fun hb7 h => ?_) fun hb7 h => ?_
  ·refine AW.ro ?_
   refine AW.ret ?_
   cases h; refine nz ?_; exact .same _
  refine AW.kr [] [] ?_
  refine AW.ret ?_
  cases h; refine nz ?_; exact .same _
 refine AW.ks [0, 1] [2, 3] ?_
 refine AW.one ?_
 refine AW.ro ?_
 refine cm h r08_words_ok fun r8 hx9 h => ?_
 refine AW.kr [0, 1] [2, 3, 6] ?_
 refine AW.ks [0, 1] [2, 3, 6, 47] ?_
 refine AW.tk h (fun hb10 h => ?_) fun hb10 h => ?_
 ·refine AW.ro ?_
  refine AW.ret ?_
  cases h; refine nz ?_; exact .same _
 refine AW.ks [0, 1] [2, 3] ?_
 refine AW.one ?_
 refine AW.ro ?_
 refine cm h r08_words_ok fun r11 hx12 h => ?_
 refine AW.kr [0, 1] [2, 3, 7] ?_
 refine AW.ks [0, 1] [2, 3, 7, 57] ?_
 refine AW.tk h (fun hb13 h => ?_) fun hb13 h => ?_
 ·refine AW.ro ?_
  refine AW.ret ?_
  cases h; refine nz ?_; exact .same _
 refine AW.ks [0, 1] [2, 3] ?_
 refine AW.one ?_
 refine AW.ro ?_
 refine cm h r08_less_ok fun r14 hx15 h => ?_
 refine AW.kr [0, 1] [2, 3, 8] ?_
 refine AW.ks [0, 1] [2, 3, 8, 67] ?_
 refine AW.tk h (fun hb16 h => ?_) fun hb16 h => ?_
 ·refine AW.ro ?_
  refine AW.ret ?_
  cases h; refine nz ?_; exact .same _
 refine AW.ks [0, 1] [2, 3] ?_
 refine AW.one ?_
 refine AW.ro ?_
 refine AW.ks [0, 1] [2, 3, 9] ?_
 refine AW.lp h (fun _ => []) (fun _ => []) (fun i17_0 => [(2, .ptr 0 6 0 0), (3, .ptr 1 6 0 0), (9, vI i17_0)]) (fun i17_0 => [vE p0.enc, vE p1.enc]) [0, 1] (fun oJ20 hJ20 again i17_0 h => ?_) fun ⟨⟩ h => ?_
 ·refine AW.one ?_
  refine AW.ro ?_
  refine AW.ks [0, 1] [2, 3, 9, 73] ?_
  refine AW.tt h (fun hb21 h => ?_) fun hb21 h => ?_
  ·refine AW.sk ?_
   refine AW.ks [0, 1] [2, 3, 9] ?_
   refine AW.one ?_
   refine AW.block ?_
   refine AW.ro ?_
   refine bx h fun x22 h0 h1 h => ?_
   refine bx h fun x24 h0 h1 h => ?_
   refine pm h (hself43 _ _) fun r26 hx27 h => ?_
   refine AW.kr [0, 1] [2, 3, 9, 10] ?_
   refine AW.ks [0, 1] [2, 3, 9, 10, 88] ?_
   refine AW.tk h (fun hb28 h => ?_) fun hb28 h => ?_
   ·refine AW.ro ?_
    refine AW.ret ?_
    have h := up h hJ20
    cases h; refine nz ?_; exact .same _
   refine AW.ks [0, 1] [2, 3, 9] ?_
   refine AW.rp ?_
   exact na [0, 1] h
  refine AW.ex ?_
  exact jo [] h
 refine AW.kr [] [] ?_
 refine AW.ret ?_
 cases h; refine nz ?_; exact .same _
def r08_Compare (K : Nat) (p0 : NodeA) (p1 : NodeA) : Option Int := iter K (fun self q => r08_Compare_body K self q.1 q.2) (p0, p1)
theorem key_r08_Compare {K : Nat} (k : Nat) : (∀ (q : NodeA × NodeA) (r : Int), iter k (fun self q => r08_Compare_body K self q.1 q.2) q = some r → Cn Tryz.prog 43 [aggV q.1.enc, aggV q.2.enc] (.d (.val (.int .i64 r)))) := by
 induction k with
 | zero => exact fun q r h => by cases h
 | succ k ih => exact fun q r h => r08_Compare_step K _ ih q.1 q.2 r h
theorem r08_Compare_ok {K : Nat} {p0 : NodeA} {p1 : NodeA} {r : Int} (h : r08_Compare K p0 p1 = some r) : Cn Tryz.prog 43 [aggV p0.enc, aggV p1.enc] (.d (.val (.int .i64 r))) := (key_r08_Compare K) (p0, p1) r h
/-! ### isochrone/isochroneref08.Equal -/
def r08_Equal (K : Nat) (p0 : NodeA) (p1 : NodeA) : Option Bool := (r08_Compare K p0 p1).bind fun r1 =>
 some (r1 == (0 : Int))
set_option maxHeartbeats 4000000 in
theorem r08_Equal_ok {K : Nat} {p0 : NodeA} {p1 : NodeA} {r : Bool} (h : r08_Equal K p0 p1 = some r) : Cn Tryz.prog 14 [aggV p0.enc, aggV p1.enc] (.d (.val (.bool r))) := by
 refine Cn.oz Tryz.func14 Tryz.call14 Tryz.ntmps14 Tryz.results14 fun hfit => ?_
 unfold r08_Equal at h
 refine AW.kr [] [0, 1] ?_
 refine AW.kr [0, 1] [2, 3] ?_
 refine cm h r08_Compare_ok fun r1 hx2 h => ?_
 refine AW.ret ?_
 cases h; refine nz ?_; exact .same _
/-! ### isochrone/rename.binder -/
def rename_binder (K : Nat) (p0 : NodeA) : Option (ByteArray × Int × Bool) := ((
  if (p0.op == (33 : Int)) then
   some (p0.op == (33 : Int))
  else
   some (p0.op == (34 : Int))) : Option Bool).bind (fun v1_0 =>
 if v1_0 then
  some (p0.name, (0 : Int), true)
 else
  ((
   if (p0.op == (35 : Int)) then
    some (p0.op == (35 : Int))
   else
    some (p0.op == (36 : Int))) : Option Bool).bind (fun v5_0 =>
  if v5_0 then
   (idx p0.kids (0 : Int)).bind fun x9 =>
   ((
    if (x9.op == (50 : Int)) then
     some true
    else
     some (x9.op == (52 : Int))) : Option Bool).bind (fun v11_0 =>
   if v11_0 then
    some (x9.name, (1 : Int), true)
   else
    some ((⟨#[]⟩ : ByteArray), (0 : Int), false))
  else
   some ((⟨#[]⟩ : ByteArray), (0 : Int), false)))
set_option maxHeartbeats 4000000 in
theorem rename_binder_ok {K : Nat} {p0 : NodeA} {r : ByteArray × Int × Bool} (h : rename_binder K p0 = some r) : Cn Tryz.prog 35 [aggV p0.enc] (.tup [.d (.val (.string r.1)), .d (.val (.int .i64 r.2.1)), .d (.val (.bool r.2.2))]) := by
 refine Cn.oz Tryz.func35 Tryz.call35 Tryz.ntmps35 Tryz.results35 fun hfit => ?_
 unfold rename_binder at h
 refine AW.kr [] [0] ?_
 refine AW.ks [0] [1] ?_
 refine AW.one ?_
 refine AW.ro ?_
 refine AW.ks [0] [1, 7] ?_
 refine AW.block ?_
 refine AW.jn h (fun v1_0 => [(1, .ptr 0 6 0 0), (7, vI p0.op), (8, vB v1_0)]) (fun v1_0 => [vE p0.enc]) (fun oJ2 h => ?_) fun v1_0 h => ?_
 ·refine AW.ro ?_
  refine AW.ks [0] [1, 7, 8] ?_
  refine AW.tt h (fun hb3 h => ?_) fun hb3 h => ?_
  ·refine AW.sk ?_
   exact ja [0] h
  refine AW.rp ?_
  exact ja [0] h
 refine AW.tt h (fun hb4 h => ?_) fun hb4 h => ?_
 ·refine AW.ro ?_
  refine AW.ret ?_
  cases h; refine nz ?_; exact .same _
 refine AW.jn h (fun v5_0 => [(1, .ptr 0 6 0 0), (13, vB v5_0)]) (fun v5_0 => [vE p0.enc]) (fun oJ6 h => ?_) fun v5_0 h => ?_
 ·refine AW.ro ?_
  refine AW.ks [0] [1, 7, 13] ?_
  refine AW.tt h (fun hb7 h => ?_) fun hb7 h => ?_
  ·refine AW.sk ?_
   exact ja [0] h
  refine AW.rp ?_
  exact ja [0] h
 refine AW.tk h (fun hb8 h => ?_) fun hb8 h => ?_
 ·refine AW.ro ?_
  refine bx h fun x9 h0 h1 h => ?_
  refine AW.ks [5] [5] ?_
  refine AW.jn h (fun v11_0 => [(5, .ptr 0 6 0 0), (27, vB v11_0)]) (fun v11_0 => [vE x9.enc]) (fun oJ12 h => ?_) fun v11_0 h => ?_
  ·refine AW.rp ?_
   refine sK h (fun hb13 h => ?_) fun hb13 h => ?_
   ·exact ja [0] h
   exact ja [0] h
  refine AW.tk h (fun hb14 h => ?_) fun hb14 h => ?_
  ·refine AW.ro ?_
   refine AW.ret ?_
   cases h; refine nz ?_; exact .same _
  refine AW.kr [] [] ?_
  refine AW.ret ?_
  cases h; refine nz ?_; exact .same _
 refine AW.kr [] [] ?_
 refine AW.ret ?_
 cases h; refine nz ?_; exact .same _
/-! ### isochrone/tree.Sort -/
def tree_Sort (K : Nat) (p0 : Int) : Option Int := ((
  if (decide ((1 : Int) ≤ p0)) then
   some (decide (p0 ≤ (13 : Int)))
  else
   some false) : Option Bool).bind (fun v1_0 =>
 if v1_0 then
  some (1 : Int)
 else
  ((
   if (decide ((20 : Int) ≤ p0)) then
    some (decide (p0 ≤ (39 : Int)))
   else
    some false) : Option Bool).bind (fun v5_0 =>
  if v5_0 then
   some (2 : Int)
  else
   ((
    if (p0 == (55 : Int)) then
     some true
    else
     some (p0 == (56 : Int))) : Option Bool).bind (fun v9_0 =>
   if v9_0 then
    some (4 : Int)
   else
    ((
     if (decide ((50 : Int) ≤ p0)) then
      some (decide (p0 ≤ (62 : Int)))
     else
      some false) : Option Bool).bind (fun v13_0 =>
    if v13_0 then
     some (3 : Int)
    else
     some (0 : Int)))))
set_option maxHeartbeats 4000000 in
theorem tree_Sort_ok {K : Nat} {p0 : Int} {r : Int} (h : tree_Sort K p0 = some r) : Cn Tryz.prog 40 [.d (.val (.int .i64 p0))] (.d (.val (.int .i64 r))) := by
 refine Cn.oz Tryz.func40 Tryz.call40 Tryz.ntmps40 Tryz.results40 fun hfit => ?_
 unfold tree_Sort at h
 refine AW.kr [] [0] ?_
 refine AW.ks [] [0] ?_
 refine AW.one ?_
 refine AW.block ?_
 refine AW.jn h (fun v1_0 => [(0, vI p0), (3, vB v1_0)]) (fun v1_0 => []) (fun oJ2 h => ?_) fun v1_0 h => ?_
 ·refine AW.rp ?_
  refine sK h (fun hb3 h => ?_) fun hb3 h => ?_
  ·exact ja [] h
  exact ja [] h
 refine AW.tt h (fun hb4 h => ?_) fun hb4 h => ?_
 ·refine AW.ro ?_
  refine AW.ret ?_
  cases h; refine nz ?_; exact .same _
 refine AW.jn h (fun v5_0 => [(0, vI p0), (10, vB v5_0)]) (fun v5_0 => []) (fun oJ6 h => ?_) fun v5_0 h => ?_
 ·refine AW.rp ?_
  refine sK h (fun hb7 h => ?_) fun hb7 h => ?_
  ·exact ja [] h
  exact ja [] h
 refine AW.tt h (fun hb8 h => ?_) fun hb8 h => ?_
 ·refine AW.ro ?_
  refine AW.ret ?_
  cases h; refine nz ?_; exact .same _
 refine AW.jn h (fun v9_0 => [(0, vI p0), (17, vB v9_0)]) (fun v9_0 => []) (fun oJ10 h => ?_) fun v9_0 h => ?_
 ·refine AW.rp ?_
  refine sK h (fun hb11 h => ?_) fun hb11 h => ?_
  ·exact ja [] h
  exact ja [] h
 refine AW.tt h (fun hb12 h => ?_) fun hb12 h => ?_
 ·refine AW.ro ?_
  refine AW.ret ?_
  cases h; refine nz ?_; exact .same _
 refine AW.jn h (fun v13_0 => [(24, vB v13_0)]) (fun v13_0 => []) (fun oJ14 h => ?_) fun v13_0 h => ?_
 ·refine AW.rp ?_
  refine sK h (fun hb15 h => ?_) fun hb15 h => ?_
  ·exact ja [] h
  exact ja [] h
 refine AW.tk h (fun hb16 h => ?_) fun hb16 h => ?_
 ·refine AW.ro ?_
  refine AW.ret ?_
  cases h; refine nz ?_; exact .same _
 refine AW.kr [] [] ?_
 refine AW.ret ?_
 cases h; refine nz ?_; exact .same _
/-! ### isochrone/tree.letter -/
def tree_letter (K : Nat) (p0 : Int) : Option Bool := if (decide ((97 : Int) ≤ p0)) then
  if (decide (p0 ≤ (122 : Int))) then
   some true
  else
   if (decide ((65 : Int) ≤ p0)) then
    some (decide (p0 ≤ (90 : Int)))
   else
    some false
 else
  if (decide ((65 : Int) ≤ p0)) then
   some (decide (p0 ≤ (90 : Int)))
  else
   some false
set_option maxHeartbeats 4000000 in
theorem tree_letter_ok {K : Nat} {p0 : Int} {r : Bool} (h : tree_letter K p0 = some r) : Cn Tryz.prog 51 [.d (.val (.int .u8 p0))] (.d (.val (.bool r))) := by
 refine Cn.oz Tryz.func51 Tryz.call51 Tryz.ntmps51 Tryz.results51 fun hfit => ?_
 unfold tree_letter at h
 refine AW.kr [] [0] ?_
 refine AW.kr [] [0] ?_
 refine sK h (fun hb1 h => ?_) fun hb1 h => ?_
 ·refine sK h (fun hb2 h => ?_) fun hb2 h => ?_
  ·refine AW.ret ?_
   cases h; refine nz ?_; exact .same _
  refine sK h (fun hb3 h => ?_) fun hb3 h => ?_
  ·refine AW.ret ?_
   cases h; refine nz ?_; exact .same _
  refine AW.ret ?_
  cases h; refine nz ?_; exact .same _
 refine sK h (fun hb4 h => ?_) fun hb4 h => ?_
 ·refine AW.ret ?_
  cases h; refine nz ?_; exact .same _
 refine AW.ret ?_
 cases h; refine nz ?_; exact .same _
/-! ### isochrone/tree.Name -/
def tree_Name (K : Nat) (p0 : ByteArray) : Option Bool := ((
  ((
   if ((p0.size : Int) == (0 : Int)) then
    some true
   else
    if (decide ((12 : Int) < (p0.size : Int))) then
     some true
    else
     (strAt p0 (0 : Int)).bind fun c7 =>
     (tree_letter K (c7.toNat : Int)).bind fun r9 =>
     some (!r9)) : Option Bool).bind (fun v3_0 =>
  if v3_0 then
   outM (
    some false)
  else
   some (.go ()))) : Option (Out Unit _)).bind (Out.fin fun _ =>
 ((iter (S := Int) (R := Out Unit _) K (fun again i12_0 =>
  if (decide (i12_0 < (p0.size : Int))) then
   ((
    ((
     (strAt p0 i12_0).bind fun c21 =>
     (tree_letter K (c21.toNat : Int)).bind fun r23 =>
     if (!r23) then
      if (decide ((c21.toNat : Int) < (48 : Int))) then
       some true
      else
       some (decide ((57 : Int) < (c21.toNat : Int)))
     else
      some false) : Option Bool).bind (fun v19_0 =>
    if v19_0 then
     outM (
      outM (
       some false))
    else
     some (.go ()))) : Option (Out Unit _)).bind (Out.fin fun _ =>
   again (IntKind.wrap .i64 (i12_0 + (1 : Int))))
  else
   some (.go ())) (0 : Int)) : Option (Out Unit _)).bind (Out.fin fun _ =>
 ((
  if (p0.toList == (⟨#[116, 114, 117, 101]⟩ : ByteArray).toList) then
   some (p0.toList == (⟨#[116, 114, 117, 101]⟩ : ByteArray).toList)
  else
   if (p0.toList == (⟨#[102, 97, 108, 115, 101]⟩ : ByteArray).toList) then
    some (p0.toList == (⟨#[102, 97, 108, 115, 101]⟩ : ByteArray).toList)
   else
    if (p0.toList == (⟨#[102, 111, 114, 97, 108, 108]⟩ : ByteArray).toList) then
     some (p0.toList == (⟨#[102, 111, 114, 97, 108, 108]⟩ : ByteArray).toList)
    else
     some (p0.toList == (⟨#[101, 120, 105, 115, 116, 115]⟩ : ByteArray).toList)) : Option Bool).bind (fun v28_0 =>
 if v28_0 then
  some false
 else
  some true)))
set_option maxHeartbeats 4000000 in
theorem tree_Name_ok {K : Nat} {p0 : ByteArray} {r : Bool} (h : tree_Name K p0 = some r) : Cn Tryz.prog 19 [.d (.val (.string p0))] (.d (.val (.bool r))) := by
 refine Cn.oz Tryz.func19 Tryz.call19 Tryz.ntmps19 Tryz.results19 fun hfit => ?_
 unfold tree_Name at h
 refine AW.kr [] [0] ?_
 refine AW.ks [] [0] ?_
 refine AW.jo h (fun _ => [(0, vS p0)]) (fun _ => []) (fun oJ2 h hJ2 => ?_) fun ⟨⟩ h => ?_
 ·refine AW.jn h (fun v3_0 => [(0, vS p0), (17, vB v3_0)]) (fun v3_0 => []) (fun oJ4 h => ?_) fun v3_0 h => ?_
  ·refine AW.rp ?_
   refine sK h (fun hb5 h => ?_) fun hb5 h => ?_
   ·exact ja [] h
   refine sK h (fun hb6 h => ?_) fun hb6 h => ?_
   ·exact ja [] h
   refine bb h fun c7 hx8 h => ?_
   refine cm h tree_letter_ok fun r9 hx10 h => ?_
   exact ja [] h
  refine AW.tk h (fun hb11 h => ?_) fun hb11 h => ?_
  ·refine AW.ro ?_
   refine AW.ret ?_
   have h := up h hJ2
   cases h; refine nz ?_; exact .same _
  exact jo [] h
 refine AW.one ?_
 refine AW.ro ?_
 refine AW.ks [] [0, 3] ?_
 refine AW.lp h (fun _ => [(0, vS p0)]) (fun _ => []) (fun i12_0 => [(0, vS p0), (3, vI i12_0)]) (fun i12_0 => []) [] (fun oJ15 hJ15 again i12_0 h => ?_) fun ⟨⟩ h => ?_
 ·refine AW.one ?_
  refine AW.ro ?_
  refine AW.ks [] [0, 3, 21] ?_
  refine AW.tt h (fun hb16 h => ?_) fun hb16 h => ?_
  ·refine AW.sk ?_
   refine AW.ks [] [0, 3] ?_
   refine AW.jo h (fun _ => [(0, vS p0), (3, vI i12_0)]) (fun _ => []) (fun oJ18 h hJ18 => ?_) fun ⟨⟩ h => ?_
   ·refine AW.block ?_
    refine AW.jn h (fun v19_0 => [(0, vS p0), (3, vI i12_0), (40, vB v19_0)]) (fun v19_0 => []) (fun oJ20 h => ?_) fun v19_0 h => ?_
    ·refine AW.rp ?_
     refine bb h fun c21 hx22 h => ?_
     refine cm h tree_letter_ok fun r23 hx24 h => ?_
     refine sK h (fun hb25 h => ?_) fun hb25 h => ?_
     ·refine sK h (fun hb26 h => ?_) fun hb26 h => ?_
      ·exact ja [] h
      exact ja [] h
     exact ja [] h
    refine AW.tk h (fun hb27 h => ?_) fun hb27 h => ?_
    ·refine AW.ro ?_
     refine AW.ret ?_
     have h := up h hJ18
     have h := up h hJ15
     cases h; refine nz ?_; exact .same _
    exact jo [] h
   refine AW.rp ?_
   exact na [] h
  refine AW.ex ?_
  exact jo [] h
 refine AW.ks [] [0] ?_
 refine AW.one ?_
 refine AW.ro ?_
 refine AW.ks [] [41] ?_
 refine AW.block ?_
 refine AW.jn h (fun v28_0 => [(42, vB v28_0)]) (fun v28_0 => []) (fun oJ29 h => ?_) fun v28_0 h => ?_
 ·refine AW.ro ?_
  refine AW.ks [] [41, 42] ?_
  refine AW.tt h (fun hb30 h => ?_) fun hb30 h => ?_
  ·refine AW.sk ?_
   exact ja [] h
  refine AW.ro ?_
  refine AW.ks [] [41, 42] ?_
  refine AW.tt h (fun hb31 h => ?_) fun hb31 h => ?_
  ·refine AW.sk ?_
   exact ja [] h
  refine AW.ro ?_
  refine AW.ks [] [41, 42] ?_
  refine AW.tt h (fun hb32 h => ?_) fun hb32 h => ?_
  ·refine AW.sk ?_
   exact ja [] h
  refine AW.rp ?_
  exact ja [] h
 refine AW.tk h (fun hb33 h => ?_) fun hb33 h => ?_
 ·refine AW.ro ?_
  refine AW.ret ?_
  cases h; refine nz ?_; exact .same _
 refine AW.kr [] [] ?_
 refine AW.ret ?_
 cases h; refine nz ?_; exact .same _
/-! ### isochrone/tree.differentiable -/
def tree_differentiable_body (K : Nat) (self113 : NodeA → Option Bool) (p0 : NodeA) : Option Bool := ((
  if (p0.op == (20 : Int)) then
   some (p0.op == (20 : Int))
  else
   if (p0.op == (21 : Int)) then
    some (p0.op == (21 : Int))
   else
    if (p0.op == (22 : Int)) then
     some (p0.op == (22 : Int))
    else
     if (p0.op == (23 : Int)) then
      some (p0.op == (23 : Int))
     else
      if (p0.op == (24 : Int)) then
       some (p0.op == (24 : Int))
      else
       if (p0.op == (25 : Int)) then
        some (p0.op == (25 : Int))
       else
        if (p0.op == (26 : Int)) then
         some (p0.op == (26 : Int))
        else
         if (p0.op == (27 : Int)) then
          some (p0.op == (27 : Int))
         else
          if (p0.op == (37 : Int)) then
           some (p0.op == (37 : Int))
          else
           some (p0.op == (38 : Int))) : Option Bool).bind (fun v1_0 =>
 if v1_0 then
  some true
 else
  ((
   if (p0.op == (29 : Int)) then
    some (p0.op == (29 : Int))
   else
    some (p0.op == (30 : Int))) : Option Bool).bind (fun v13_0 =>
  if v13_0 then
   ((iter (S := Int) (R := Out Unit _) K (fun again i17_0 =>
    if (decide (i17_0 < (p0.kids.length : Int))) then
     (idx p0.kids i17_0).bind fun x22 =>
     (self113 (x22)).bind fun r24 =>
     if (!r24) then
      outM (
       some false)
     else
      again (IntKind.wrap .i64 (i17_0 + (1 : Int)))
    else
     some (.go ())) (0 : Int)) : Option (Out Unit _)).bind (Out.fin fun _ =>
   some true)
  else
   some false))
set_option maxHeartbeats 4000000 in
theorem tree_differentiable_step (K : Nat) (self113 : NodeA → Option Bool) (hself113 : ∀ (q : NodeA) (r : Bool), self113 q = some r → Cn Tryz.prog 113 [aggV q.enc] (.d (.val (.bool r)))) (p0 : NodeA) (r : Bool) (h : tree_differentiable_body K self113 p0 = some r) : Cn Tryz.prog 113 [aggV p0.enc] (.d (.val (.bool r))) := by
 refine Cn.oz Tryz.func113 Tryz.call113 Tryz.ntmps113 Tryz.results113 fun hfit => ?_
 unfold tree_differentiable_body at h
 refine AW.kr [] [0] ?_
 refine AW.ks [0] [1] ?_
 refine AW.one ?_
 refine AW.ro ?_
 refine AW.ks [0] [1, 6] ?_
 refine AW.block ?_
 refine AW.jn h (fun v1_0 => [(1, .ptr 0 6 0 0), (6, vI p0.op), (7, vB v1_0)]) (fun v1_0 => [vE p0.enc]) (fun oJ2 h => ?_) fun v1_0 h => ?_
 ·refine AW.ro ?_
  refine AW.ks [0] [1, 6, 7] ?_
  refine AW.tt h (fun hb3 h => ?_) fun hb3 h => ?_
  ·refine AW.sk ?_
   exact ja [0] h
  refine AW.ro ?_
  refine AW.ks [0] [1, 6, 7] ?_
  refine AW.tt h (fun hb4 h => ?_) fun hb4 h => ?_
  ·refine AW.sk ?_
   exact ja [0] h
  refine AW.ro ?_
  refine AW.ks [0] [1, 6, 7] ?_
  refine AW.tt h (fun hb5 h => ?_) fun hb5 h => ?_
  ·refine AW.sk ?_
   exact ja [0] h
  refine AW.ro ?_
  refine AW.ks [0] [1, 6, 7] ?_
  refine AW.tt h (fun hb6 h => ?_) fun hb6 h => ?_
  ·refine AW.sk ?_
   exact ja [0] h
  refine AW.ro ?_
  refine AW.ks [0] [1, 6, 7] ?_
  refine AW.tt h (fun hb7 h => ?_) fun hb7 h => ?_
  ·refine AW.sk ?_
   exact ja [0] h
  refine AW.ro ?_
  refine AW.ks [0] [1, 6, 7] ?_
  refine AW.tt h (fun hb8 h => ?_) fun hb8 h => ?_
  ·refine AW.sk ?_
   exact ja [0] h
  refine AW.ro ?_
  refine AW.ks [0] [1, 6, 7] ?_
  refine AW.tt h (fun hb9 h => ?_) fun hb9 h => ?_
  ·refine AW.sk ?_
   exact ja [0] h
  refine AW.ro ?_
  refine AW.ks [0] [1, 6, 7] ?_
  refine AW.tt h (fun hb10 h => ?_) fun hb10 h => ?_
  ·refine AW.sk ?_
   exact ja [0] h
  refine AW.ro ?_
  refine AW.ks [0] [1, 6, 7] ?_
  refine AW.tt h (fun hb11 h => ?_) fun hb11 h => ?_
  ·refine AW.sk ?_
   exact ja [0] h
  refine AW.rp ?_
  exact ja [0] h
 refine AW.tt h (fun hb12 h => ?_) fun hb12 h => ?_
 ·refine AW.ro ?_
  refine AW.ret ?_
  cases h; refine nz ?_; exact .same _
 refine AW.jn h (fun v13_0 => [(1, .ptr 0 6 0 0), (18, vB v13_0)]) (fun v13_0 => [vE p0.enc]) (fun oJ14 h => ?_) fun v13_0 h => ?_
 ·refine AW.ro ?_
  refine AW.ks [0] [1, 6, 18] ?_
  refine AW.tt h (fun hb15 h => ?_) fun hb15 h => ?_
  ·refine AW.sk ?_
   exact ja [0] h
  refine AW.rp ?_
  exact ja [0] h
 refine AW.tk h (fun hb16 h => ?_) fun hb16 h => ?_
 ·refine AW.one ?_
  refine AW.ro ?_
  refine AW.ks [] [22, 23, 24] ?_
  refine AW.lp h (fun _ => []) (fun _ => []) (fun i17_0 => [(22, vL NodeA.enc p0.kids), (23, vI (p0.kids.length : Int)), (24, vI i17_0)]) (fun i17_0 => []) [] (fun oJ20 hJ20 again i17_0 h => ?_) fun ⟨⟩ h => ?_
  ·refine AW.ro ?_
   refine AW.ks [] [22, 23, 24, 25] ?_
   refine AW.one ?_
   refine AW.tt h (fun hb21 h => ?_) fun hb21 h => ?_
   ·refine AW.sk ?_
    refine AW.ks [] [22, 23, 24] ?_
    refine AW.one ?_
    refine AW.block ?_
    refine AW.ro ?_
    refine bx h fun x22 h0 h1 h => ?_
    refine AW.kr [2] [4, 22, 23, 24] ?_
    refine cm h (hself113 _ _) fun r24 hx25 h => ?_
    refine AW.ks [] [22, 23, 24, 30] ?_
    refine AW.tk h (fun hb26 h => ?_) fun hb26 h => ?_
    ·refine AW.ro ?_
     refine AW.ret ?_
     have h := up h hJ20
     cases h; refine nz ?_; exact .same _
    refine AW.ks [] [22, 23, 24] ?_
    refine AW.rp ?_
    exact na [] h
   refine AW.ex ?_
   exact jo [] h
  refine AW.kr [] [] ?_
  refine AW.ret ?_
  cases h; refine nz ?_; exact .same _
 refine AW.kr [] [] ?_
 refine AW.ret ?_
 cases h; refine nz ?_; exact .same _
def tree_differentiable (K : Nat) (p0 : NodeA) : Option Bool := iter K (fun self q => tree_differentiable_body K self q) p0
theorem key_tree_differentiable {K : Nat} (k : Nat) : (∀ (q : NodeA) (r : Bool), iter k (fun self q => tree_differentiable_body K self q) q = some r → Cn Tryz.prog 113 [aggV q.enc] (.d (.val (.bool r)))) := by
 induction k with
 | zero => exact fun q r h => by cases h
 | succ k ih => exact fun q r h => tree_differentiable_step K _ ih q r h
theorem tree_differentiable_ok {K : Nat} {p0 : NodeA} {r : Bool} (h : tree_differentiable K p0 = some r) : Cn Tryz.prog 113 [aggV p0.enc] (.d (.val (.bool r))) := (key_tree_differentiable K) p0 r h
/-! ### isochrone/num.valid -/
def num_valid (K : Nat) (p0 : List Int) (p1 : Int) : Option Bool := if (decide ((p0.length : Int) ≤ p1)) then
  if ((p0.length : Int) == (0 : Int)) then
   some true
  else
   (idx p0 (IntKind.wrap .i64 ((p0.length : Int) - (1 : Int)))).bind fun x3 =>
   some (x3 != (0 : Int))
 else
  some false
set_option maxHeartbeats 4000000 in
theorem num_valid_ok {K : Nat} {p0 : List Int} {p1 : Int} {r : Bool} (h : num_valid K p0 p1 = some r) : Cn Tryz.prog 149 [.d (slD u32V p0), .d (.val (.int .i64 p1))] (.d (.val (.bool r))) := by
 refine Cn.oz Tryz.func149 Tryz.call149 Tryz.ntmps149 Tryz.results149 fun hfit => ?_
 unfold num_valid at h
 refine AW.kr [] [0, 1] ?_
 refine AW.kr [] [0, 1] ?_
 refine sK h (fun hb1 h => ?_) fun hb1 h => ?_
 ·refine sK h (fun hb2 h => ?_) fun hb2 h => ?_
  ·refine AW.ret ?_
   cases h; refine nz ?_; exact .same _
  refine bx h fun x3 h0 h1 h => ?_
  refine AW.ret ?_
  cases h; refine nz ?_; exact .same _
 refine AW.ret ?_
 cases h; refine nz ?_; exact .same _
/-! ### isochrone/num.Valid -/
def num_Valid (K : Nat) (p0 : RatA) (p1 : Int) : Option Bool := ((
  ((
   (num_valid K p0.num p1).bind fun r5 =>
   if (!r5) then
    some true
   else
    (num_valid K p0.den p1).bind fun r8 =>
    if (!r8) then
     some true
    else
     some ((p0.den.length : Int) == (0 : Int))) : Option Bool).bind (fun v3_0 =>
  if v3_0 then
   outM (
    some false)
  else
   some (.go ()))) : Option (Out Unit _)).bind (Out.fin fun _ =>
 if ((p0.num.length : Int) == (0 : Int)) then
  if (!p0.neg) then
   if ((p0.den.length : Int) == (1 : Int)) then
    (idx p0.den (0 : Int)).bind fun x15 =>
    some (x15 == (1 : Int))
   else
    some false
  else
   some false
 else
  ((
   ((
    if ((p0.den.length : Int) == (1 : Int)) then
     (idx p0.den (0 : Int)).bind fun x22 =>
     some (x22 == (1 : Int))
    else
     some false) : Option Bool).bind (fun v19_0 =>
   if v19_0 then
    outM (
     some true)
   else
    some (.go ()))) : Option (Out Unit _)).bind (Out.fin fun _ =>
  none))
set_option maxHeartbeats 4000000 in
theorem num_Valid_ok {K : Nat} {p0 : RatA} {p1 : Int} {r : Bool} (h : num_Valid K p0 p1 = some r) : Cn Tryz.prog 136 [aggV p0.enc, .d (.val (.int .i64 p1))] (.d (.val (.bool r))) := by
 refine Cn.oz Tryz.func136 Tryz.call136 Tryz.ntmps136 Tryz.results136 fun hfit => ?_
 unfold num_Valid at h
 refine AW.kr [] [0, 1] ?_
 refine AW.ks [0] [1, 2] ?_
 refine AW.jo h (fun _ => [(2, .ptr 0 3 0 0)]) (fun _ => [vE p0.enc]) (fun oJ2 h hJ2 => ?_) fun ⟨⟩ h => ?_
 ·refine AW.jn h (fun v3_0 => [(2, .ptr 0 3 0 0), (23, vB v3_0)]) (fun v3_0 => [vE p0.enc]) (fun oJ4 h => ?_) fun v3_0 h => ?_
  ·refine AW.rp ?_
   refine cm h num_valid_ok fun r5 hx6 h => ?_
   refine sK h (fun hb7 h => ?_) fun hb7 h => ?_
   ·exact ja [0] h
   refine cm h num_valid_ok fun r8 hx9 h => ?_
   refine sK h (fun hb10 h => ?_) fun hb10 h => ?_
   ·exact ja [0] h
   exact ja [0] h
  refine AW.tk h (fun hb11 h => ?_) fun hb11 h => ?_
  ·refine AW.ro ?_
   refine AW.ret ?_
   have h := up h hJ2
   cases h; refine nz ?_; exact .same _
  exact jo [0] h
 refine AW.one ?_
 refine AW.ro ?_
 refine AW.ks [0] [2, 27] ?_
 refine AW.tk h (fun hb12 h => ?_) fun hb12 h => ?_
 ·refine AW.ro ?_
  refine sK h (fun hb13 h => ?_) fun hb13 h => ?_
  ·refine sK h (fun hb14 h => ?_) fun hb14 h => ?_
   ·refine bx h fun x15 h0 h1 h => ?_
    refine AW.ret ?_
    cases h; refine nz ?_; exact .same _
   refine AW.ret ?_
   cases h; refine nz ?_; exact .same _
  refine AW.ret ?_
  cases h; refine nz ?_; exact .same _
 refine AW.ks [0] [2] ?_
 refine AW.jo h (fun _ => [(2, .ptr 0 3 0 0)]) (fun _ => [vE p0.enc]) (fun oJ18 h hJ18 => ?_) fun ⟨⟩ h => ?_
 ·refine AW.jn h (fun v19_0 => [(2, .ptr 0 3 0 0), (54, vB v19_0)]) (fun v19_0 => [vE p0.enc]) (fun oJ20 h => ?_) fun v19_0 h => ?_
  ·refine AW.rp ?_
   refine sK h (fun hb21 h => ?_) fun hb21 h => ?_
   ·refine bx h fun x22 h0 h1 h => ?_
    exact ja [0] h
   exact ja [0] h
  refine AW.tk h (fun hb24 h => ?_) fun hb24 h => ?_
  ·refine AW.ro ?_
   refine AW.ret ?_
   have h := up h hJ18
   cases h; refine nz ?_; exact .same _
  exact jo [0] h
 refine AW.ro ?_
 cases h
/-! ### isochrone/rat.Valid -/
def rat_Valid (K : Nat) (p0 : RatA) : Option Bool := (num_Valid K p0 (4096 : Int)).bind fun r1 =>
 some r1
set_option maxHeartbeats 4000000 in
theorem rat_Valid_ok {K : Nat} {p0 : RatA} {r : Bool} (h : rat_Valid K p0 = some r) : Cn Tryz.prog 127 [aggV p0.enc] (.d (.val (.bool r))) := by
 refine Cn.oz Tryz.func127 Tryz.call127 Tryz.ntmps127 Tryz.results127 fun hfit => ?_
 unfold rat_Valid at h
 refine AW.kr [] [0] ?_
 refine AW.kr [0] [1] ?_
 refine cm h num_Valid_ok fun r1 hx2 h => ?_
 refine AW.ret ?_
 cases h; refine nz ?_; exact .same _
/-! ### isochrone/tree.natural -/
def tree_natural (K : Nat) (p0 : RatA) : Option Bool := if (!p0.neg) then
  if ((p0.den.length : Int) == (1 : Int)) then
   (idx p0.den (0 : Int)).bind fun x3 =>
   if (x3 == (1 : Int)) then
    if (decide ((p0.num.length : Int) ≤ (20 : Int))) then
     (rat_Valid K p0).bind fun r7 =>
     some r7
    else
     some false
   else
    some false
  else
   some false
 else
  some false
set_option maxHeartbeats 4000000 in
theorem tree_natural_ok {K : Nat} {p0 : RatA} {r : Bool} (h : tree_natural K p0 = some r) : Cn Tryz.prog 111 [aggV p0.enc] (.d (.val (.bool r))) := by
 refine Cn.oz Tryz.func111 Tryz.call111 Tryz.ntmps111 Tryz.results111 fun hfit => ?_
 unfold tree_natural at h
 refine AW.kr [] [0] ?_
 refine AW.kr [0] [1] ?_
 refine sK h (fun hb1 h => ?_) fun hb1 h => ?_
 ·refine sK h (fun hb2 h => ?_) fun hb2 h => ?_
  ·refine bx h fun x3 h0 h1 h => ?_
   refine sK h (fun hb5 h => ?_) fun hb5 h => ?_
   ·refine sK h (fun hb6 h => ?_) fun hb6 h => ?_
    ·refine cm h rat_Valid_ok fun r7 hx8 h => ?_
     refine AW.ret ?_
     cases h; refine nz ?_; exact .same _
    refine AW.ret ?_
    cases h; refine nz ?_; exact .same _
   refine AW.ret ?_
   cases h; refine nz ?_; exact .same _
  refine AW.ret ?_
  cases h; refine nz ?_; exact .same _
 refine AW.ret ?_
 cases h; refine nz ?_; exact .same _
/-! ### isochrone/tree.shape -/
def tree_shape (K : Nat) (p0 : Int) : Option (Bool × (Option (List Int))) := ((
  if (p0 == (1 : Int)) then
   some (p0 == (1 : Int))
  else
   if (p0 == (13 : Int)) then
    some (p0 == (13 : Int))
   else
    if (p0 == (20 : Int)) then
     some (p0 == (20 : Int))
    else
     some (p0 == (21 : Int))) : Option Bool).bind (fun v1_0 =>
 if v1_0 then
  some (false, none)
 else
  ((
   if (p0 == (2 : Int)) then
    some (p0 == (2 : Int))
   else
    if (p0 == (3 : Int)) then
     some (p0 == (3 : Int))
    else
     if (p0 == (11 : Int)) then
      some (p0 == (11 : Int))
     else
      if (p0 == (38 : Int)) then
       some (p0 == (38 : Int))
      else
       if (p0 == (52 : Int)) then
        some (p0 == (52 : Int))
       else
        if (p0 == (56 : Int)) then
         some (p0 == (56 : Int))
        else
         if (p0 == (61 : Int)) then
          some (p0 == (61 : Int))
         else
          some (p0 == (62 : Int))) : Option Bool).bind (fun v7_0 =>
  if v7_0 then
   some (true, none)
  else
   ((
    if (p0 == (4 : Int)) then
     some (p0 == (4 : Int))
    else
     if (p0 == (12 : Int)) then
      some (p0 == (12 : Int))
     else
      if (p0 == (53 : Int)) then
       some (p0 == (53 : Int))
      else
       if (p0 == (28 : Int)) then
        some (p0 == (28 : Int))
       else
        if (p0 == (39 : Int)) then
         some (p0 == (39 : Int))
        else
         if (p0 == (59 : Int)) then
          some (p0 == (59 : Int))
         else
          some (p0 == (60 : Int))) : Option Bool).bind (fun v17_0 =>
   if v17_0 then
    ((
     ((
      if (p0 == (4 : Int)) then
       some (p0 == (4 : Int))
      else
       some (p0 == (12 : Int))) : Option Bool).bind (fun v28_0 =>
     if v28_0 then
      outM (
       some (false, (some [(1 : Int)])))
     else
      ((
       if (p0 == (59 : Int)) then
        some (p0 == (59 : Int))
       else
        some (p0 == (60 : Int))) : Option Bool).bind (fun v32_0 =>
      if v32_0 then
       outM (
        some (false, (some [(3 : Int)])))
      else
       some (.go ())))) : Option (Out Unit _)).bind (Out.fin fun _ =>
    some (false, (some [(2 : Int)])))
   else
    ((
     if (p0 == (5 : Int)) then
      some (p0 == (5 : Int))
     else
      if (p0 == (6 : Int)) then
       some (p0 == (6 : Int))
      else
       if (p0 == (7 : Int)) then
        some (p0 == (7 : Int))
       else
        if (p0 == (8 : Int)) then
         some (p0 == (8 : Int))
        else
         if (p0 == (9 : Int)) then
          some (p0 == (9 : Int))
         else
          if (p0 == (22 : Int)) then
           some (p0 == (22 : Int))
          else
           if (p0 == (23 : Int)) then
            some (p0 == (23 : Int))
           else
            if (p0 == (24 : Int)) then
             some (p0 == (24 : Int))
            else
             if (p0 == (25 : Int)) then
              some (p0 == (25 : Int))
             else
              if (p0 == (26 : Int)) then
               some (p0 == (26 : Int))
              else
               some (p0 == (27 : Int))) : Option Bool).bind (fun v36_0 =>
    if v36_0 then
     some (false, (some [(1 : Int), (1 : Int)]))
    else
     ((
      if (p0 == (29 : Int)) then
       some (p0 == (29 : Int))
      else
       if (p0 == (30 : Int)) then
        some (p0 == (30 : Int))
       else
        if (p0 == (31 : Int)) then
         some (p0 == (31 : Int))
        else
         some (p0 == (32 : Int))) : Option Bool).bind (fun v49_0 =>
     if v49_0 then
      some (false, (some [(2 : Int), (2 : Int)]))
     else
      ((
       if (p0 == (33 : Int)) then
        some (p0 == (33 : Int))
       else
        some (p0 == (34 : Int))) : Option Bool).bind (fun v55_0 =>
      if v55_0 then
       some (true, (some [(2 : Int)]))
      else
       ((
        if (p0 == (35 : Int)) then
         some (p0 == (35 : Int))
        else
         some (p0 == (36 : Int))) : Option Bool).bind (fun v59_0 =>
       if v59_0 then
        some (false, (some [(3 : Int), (2 : Int)]))
       else
        ((
         if (p0 == (50 : Int)) then
          some (p0 == (50 : Int))
         else
          if (p0 == (51 : Int)) then
           some (p0 == (51 : Int))
          else
           some (p0 == (55 : Int))) : Option Bool).bind (fun v63_0 =>
        if v63_0 then
         some (true, (some [(1 : Int)]))
        else
         ((
          if (p0 == (57 : Int)) then
           some (p0 == (57 : Int))
          else
           some (p0 == (58 : Int))) : Option Bool).bind (fun v68_0 =>
         if v68_0 then
          some (false, (some [(3 : Int), (3 : Int)]))
         else
          some (false, none))))))))))
set_option maxHeartbeats 4000000 in
theorem tree_shape_ok {K : Nat} {p0 : Int} {r : Bool × (Option (List Int))} (h : tree_shape K p0 = some r) : Cn Tryz.prog 112 [.d (.val (.int .i64 p0))] (.tup [.d (.val (.bool r.1)), nilV i64V r.2]) := by
 refine Cn.oz Tryz.func112 Tryz.call112 Tryz.ntmps112 Tryz.results112 fun hfit => ?_
 unfold tree_shape at h
 refine AW.kr [] [0] ?_
 refine AW.ks [] [0] ?_
 refine AW.one ?_
 refine AW.ro ?_
 refine AW.ks [] [0, 4] ?_
 refine AW.block ?_
 refine AW.jn h (fun v1_0 => [(0, vI p0), (4, vI p0), (5, vB v1_0)]) (fun v1_0 => []) (fun oJ2 h => ?_) fun v1_0 h => ?_
 ·refine AW.ro ?_
  refine AW.ks [] [0, 4, 5] ?_
  refine AW.tt h (fun hb3 h => ?_) fun hb3 h => ?_
  ·refine AW.sk ?_
   exact ja [] h
  refine AW.ro ?_
  refine AW.ks [] [0, 4, 5] ?_
  refine AW.tt h (fun hb4 h => ?_) fun hb4 h => ?_
  ·refine AW.sk ?_
   exact ja [] h
  refine AW.ro ?_
  refine AW.ks [] [0, 4, 5] ?_
  refine AW.tt h (fun hb5 h => ?_) fun hb5 h => ?_
  ·refine AW.sk ?_
   exact ja [] h
  refine AW.rp ?_
  exact ja [] h
 refine AW.tt h (fun hb6 h => ?_) fun hb6 h => ?_
 ·refine AW.ro ?_
  refine AW.ret ?_
  cases h; refine nz ?_; exact .same _
 refine AW.jn h (fun v7_0 => [(0, vI p0), (4, vI p0), (10, vB v7_0)]) (fun v7_0 => []) (fun oJ8 h => ?_) fun v7_0 h => ?_
 ·refine AW.ro ?_
  refine AW.ks [] [0, 4, 10] ?_
  refine AW.tt h (fun hb9 h => ?_) fun hb9 h => ?_
  ·refine AW.sk ?_
   exact ja [] h
  refine AW.ro ?_
  refine AW.ks [] [0, 4, 10] ?_
  refine AW.tt h (fun hb10 h => ?_) fun hb10 h => ?_
  ·refine AW.sk ?_
   exact ja [] h
  refine AW.ro ?_
  refine AW.ks [] [0, 4, 10] ?_
  refine AW.tt h (fun hb11 h => ?_) fun hb11 h => ?_
  ·refine AW.sk ?_
   exact ja [] h
  refine AW.ro ?_
  refine AW.ks [] [0, 4, 10] ?_
  refine AW.tt h (fun hb12 h => ?_) fun hb12 h => ?_
  ·refine AW.sk ?_
   exact ja [] h
  refine AW.ro ?_
  refine AW.ks [] [0, 4, 10] ?_
  refine AW.tt h (fun hb13 h => ?_) fun hb13 h => ?_
  ·refine AW.sk ?_
   exact ja [] h
  refine AW.ro ?_
  refine AW.ks [] [0, 4, 10] ?_
  refine AW.tt h (fun hb14 h => ?_) fun hb14 h => ?_
  ·refine AW.sk ?_
   exact ja [] h
  refine AW.ro ?_
  refine AW.ks [] [0, 4, 10] ?_
  refine AW.tt h (fun hb15 h => ?_) fun hb15 h => ?_
  ·refine AW.sk ?_
   exact ja [] h
  refine AW.rp ?_
  exact ja [] h
 refine AW.tt h (fun hb16 h => ?_) fun hb16 h => ?_
 ·refine AW.ro ?_
  refine AW.ret ?_
  cases h; refine nz ?_; exact .same _
 refine AW.jn h (fun v17_0 => [(0, vI p0), (4, vI p0), (19, vB v17_0)]) (fun v17_0 => []) (fun oJ18 h => ?_) fun v17_0 h => ?_
 ·refine AW.ro ?_
  refine AW.ks [] [0, 4, 19] ?_
  refine AW.tt h (fun hb19 h => ?_) fun hb19 h => ?_
  ·refine AW.sk ?_
   exact ja [] h
  refine AW.ro ?_
  refine AW.ks [] [0, 4, 19] ?_
  refine AW.tt h (fun hb20 h => ?_) fun hb20 h => ?_
  ·refine AW.sk ?_
   exact ja [] h
  refine AW.ro ?_
  refine AW.ks [] [0, 4, 19] ?_
  refine AW.tt h (fun hb21 h => ?_) fun hb21 h => ?_
  ·refine AW.sk ?_
   exact ja [] h
  refine AW.ro ?_
  refine AW.ks [] [0, 4, 19] ?_
  refine AW.tt h (fun hb22 h => ?_) fun hb22 h => ?_
  ·refine AW.sk ?_
   exact ja [] h
  refine AW.ro ?_
  refine AW.ks [] [0, 4, 19] ?_
  refine AW.tt h (fun hb23 h => ?_) fun hb23 h => ?_
  ·refine AW.sk ?_
   exact ja [] h
  refine AW.ro ?_
  refine AW.ks [] [0, 4, 19] ?_
  refine AW.tt h (fun hb24 h => ?_) fun hb24 h => ?_
  ·refine AW.sk ?_
   exact ja [] h
  refine AW.rp ?_
  exact ja [] h
 refine AW.tt h (fun hb25 h => ?_) fun hb25 h => ?_
 ·refine AW.jo h (fun _ => []) (fun _ => []) (fun oJ27 h hJ27 => ?_) fun ⟨⟩ h => ?_
  ·refine AW.ro ?_
   refine AW.ks [] [27] ?_
   refine AW.block ?_
   refine AW.jn h (fun v28_0 => [(27, vI p0), (28, vB v28_0)]) (fun v28_0 => []) (fun oJ29 h => ?_) fun v28_0 h => ?_
   ·refine AW.ro ?_
    refine AW.ks [] [27, 28] ?_
    refine AW.tt h (fun hb30 h => ?_) fun hb30 h => ?_
    ·refine AW.sk ?_
     exact ja [] h
    refine AW.rp ?_
    exact ja [] h
   refine AW.tt h (fun hb31 h => ?_) fun hb31 h => ?_
   ·refine AW.ro ?_
    refine AW.ret ?_
    have h := up h hJ27
    cases h; refine nz ?_; exact .same _
   refine AW.jn h (fun v32_0 => [(32, vB v32_0)]) (fun v32_0 => []) (fun oJ33 h => ?_) fun v32_0 h => ?_
   ·refine AW.ro ?_
    refine AW.ks [] [27, 32] ?_
    refine AW.tt h (fun hb34 h => ?_) fun hb34 h => ?_
    ·refine AW.sk ?_
     exact ja [] h
    refine AW.rp ?_
    exact ja [] h
   refine AW.tk h (fun hb35 h => ?_) fun hb35 h => ?_
   ·refine AW.ro ?_
    refine AW.ret ?_
    have h := up h hJ27
    cases h; refine nz ?_; exact .same _
   exact jo [] h
  refine AW.ro ?_
  refine AW.ret ?_
  cases h; refine nz ?_; exact .same _
 refine AW.jn h (fun v36_0 => [(4, vI p0), (37, vB v36_0)]) (fun v36_0 => []) (fun oJ37 h => ?_) fun v36_0 h => ?_
 ·refine AW.ro ?_
  refine AW.ks [] [4, 37] ?_
  refine AW.tt h (fun hb38 h => ?_) fun hb38 h => ?_
  ·refine AW.sk ?_
   exact ja [] h
  refine AW.ro ?_
  refine AW.ks [] [4, 37] ?_
  refine AW.tt h (fun hb39 h => ?_) fun hb39 h => ?_
  ·refine AW.sk ?_
   exact ja [] h
  refine AW.ro ?_
  refine AW.ks [] [4, 37] ?_
  refine AW.tt h (fun hb40 h => ?_) fun hb40 h => ?_
  ·refine AW.sk ?_
   exact ja [] h
  refine AW.ro ?_
  refine AW.ks [] [4, 37] ?_
  refine AW.tt h (fun hb41 h => ?_) fun hb41 h => ?_
  ·refine AW.sk ?_
   exact ja [] h
  refine AW.ro ?_
  refine AW.ks [] [4, 37] ?_
  refine AW.tt h (fun hb42 h => ?_) fun hb42 h => ?_
  ·refine AW.sk ?_
   exact ja [] h
  refine AW.ro ?_
  refine AW.ks [] [4, 37] ?_
  refine AW.tt h (fun hb43 h => ?_) fun hb43 h => ?_
  ·refine AW.sk ?_
   exact ja [] h
  refine AW.ro ?_
  refine AW.ks [] [4, 37] ?_
  refine AW.tt h (fun hb44 h => ?_) fun hb44 h => ?_
  ·refine AW.sk ?_
   exact ja [] h
  refine AW.ro ?_
  refine AW.ks [] [4, 37] ?_
  refine AW.tt h (fun hb45 h => ?_) fun hb45 h => ?_
  ·refine AW.sk ?_
   exact ja [] h
  refine AW.ro ?_
  refine AW.ks [] [4, 37] ?_
  refine AW.tt h (fun hb46 h => ?_) fun hb46 h => ?_
  ·refine AW.sk ?_
   exact ja [] h
  refine AW.ro ?_
  refine AW.ks [] [4, 37] ?_
  refine AW.tt h (fun hb47 h => ?_) fun hb47 h => ?_
  ·refine AW.sk ?_
   exact ja [] h
  refine AW.rp ?_
  exact ja [] h
 refine AW.tt h (fun hb48 h => ?_) fun hb48 h => ?_
 ·refine AW.ro ?_
  refine AW.ret ?_
  cases h; refine nz ?_; exact .same _
 refine AW.jn h (fun v49_0 => [(4, vI p0), (50, vB v49_0)]) (fun v49_0 => []) (fun oJ50 h => ?_) fun v49_0 h => ?_
 ·refine AW.ro ?_
  refine AW.ks [] [4, 50] ?_
  refine AW.tt h (fun hb51 h => ?_) fun hb51 h => ?_
  ·refine AW.sk ?_
   exact ja [] h
  refine AW.ro ?_
  refine AW.ks [] [4, 50] ?_
  refine AW.tt h (fun hb52 h => ?_) fun hb52 h => ?_
  ·refine AW.sk ?_
   exact ja [] h
  refine AW.ro ?_
  refine AW.ks [] [4, 50] ?_
  refine AW.tt h (fun hb53 h => ?_) fun hb53 h => ?_
  ·refine AW.sk ?_
   exact ja [] h
  refine AW.rp ?_
  exact ja [] h
 refine AW.tt h (fun hb54 h => ?_) fun hb54 h => ?_
 ·refine AW.ro ?_
  refine AW.ret ?_
  cases h; refine nz ?_; exact .same _
 refine AW.jn h (fun v55_0 => [(4, vI p0), (56, vB v55_0)]) (fun v55_0 => []) (fun oJ56 h => ?_) fun v55_0 h => ?_
 ·refine AW.ro ?_
  refine AW.ks [] [4, 56] ?_
  refine AW.tt h (fun hb57 h => ?_) fun hb57 h => ?_
  ·refine AW.sk ?_
   exact ja [] h
  refine AW.rp ?_
  exact ja [] h
 refine AW.tt h (fun hb58 h => ?_) fun hb58 h => ?_
 ·refine AW.ro ?_
  refine AW.ret ?_
  cases h; refine nz ?_; exact .same _
 refine AW.jn h (fun v59_0 => [(4, vI p0), (60, vB v59_0)]) (fun v59_0 => []) (fun oJ60 h => ?_) fun v59_0 h => ?_
 ·refine AW.ro ?_
  refine AW.ks [] [4, 60] ?_
  refine AW.tt h (fun hb61 h => ?_) fun hb61 h => ?_
  ·refine AW.sk ?_
   exact ja [] h
  refine AW.rp ?_
  exact ja [] h
 refine AW.tt h (fun hb62 h => ?_) fun hb62 h => ?_
 ·refine AW.ro ?_
  refine AW.ret ?_
  cases h; refine nz ?_; exact .same _
 refine AW.jn h (fun v63_0 => [(4, vI p0), (64, vB v63_0)]) (fun v63_0 => []) (fun oJ64 h => ?_) fun v63_0 h => ?_
 ·refine AW.ro ?_
  refine AW.ks [] [4, 64] ?_
  refine AW.tt h (fun hb65 h => ?_) fun hb65 h => ?_
  ·refine AW.sk ?_
   exact ja [] h
  refine AW.ro ?_
  refine AW.ks [] [4, 64] ?_
  refine AW.tt h (fun hb66 h => ?_) fun hb66 h => ?_
  ·refine AW.sk ?_
   exact ja [] h
  refine AW.rp ?_
  exact ja [] h
 refine AW.tt h (fun hb67 h => ?_) fun hb67 h => ?_
 ·refine AW.ro ?_
  refine AW.ret ?_
  cases h; refine nz ?_; exact .same _
 refine AW.jn h (fun v68_0 => [(69, vB v68_0)]) (fun v68_0 => []) (fun oJ69 h => ?_) fun v68_0 h => ?_
 ·refine AW.ro ?_
  refine AW.ks [] [4, 69] ?_
  refine AW.tt h (fun hb70 h => ?_) fun hb70 h => ?_
  ·refine AW.sk ?_
   exact ja [] h
  refine AW.rp ?_
  exact ja [] h
 refine AW.tk h (fun hb71 h => ?_) fun hb71 h => ?_
 ·refine AW.ro ?_
  refine AW.ret ?_
  cases h; refine nz ?_; exact .same _
 refine AW.kr [] [] ?_
 refine AW.ret ?_
 cases h; refine nz ?_; exact .same _
structure Tree_placeA where
 inDiff : Bool
 inFDiff : Bool
 inFlow : Bool
def Tree_placeA.enc (x : Tree_placeA) : List D := [.val (.bool x.inDiff), .val (.bool x.inFDiff), .val (.bool x.inFlow)]
theorem Tree_placeA.enc_eta (x : Tree_placeA) : x.enc = [.val (.bool x.inDiff), .val (.bool x.inFDiff), .val (.bool x.inFlow)] := rfl
attribute [go_sem] Tree_placeA.enc_eta
/-! ### isochrone/tree.formed -/
def tree_formed_body (K : Nat) (self84 : (NodeA × Tree_placeA) → Option Bool) (p0 : NodeA) (p1 : Tree_placeA) : Option Bool := ((
  if (p0.op == (1 : Int)) then
   (tree_natural K p0.num).bind fun r4 =>
   if (!r4) then
    outM (
     some false)
   else
    some (.go ())
  else
   ((
    if p0.num.neg then
     some true
    else
     if (decide ((0 : Int) < (p0.num.num.length : Int))) then
      some true
     else
      some (decide ((0 : Int) < (p0.num.den.length : Int)))) : Option Bool).bind (fun v7_0 =>
   if v7_0 then
    outM (
     some false)
   else
    some (.go ()))) : Option (Out Unit _)).bind (Out.fin fun _ =>
 (tree_shape K p0.op).bind fun r12 =>
 ((
  ((
   if r12.1 then
    (tree_Name K p0.name).bind fun r19 =>
    if (!r19) then
     some true
    else
     some false
   else
    if (!(p0.name.toList == (⟨#[]⟩ : ByteArray).toList)) then
     if (p0.op != (10 : Int)) then
      some (p0.op != (37 : Int))
     else
      some false
    else
     some false) : Option Bool).bind (fun v16_0 =>
  if v16_0 then
   outM (
    some false)
  else
   some (.go ()))) : Option (Out Unit _)).bind (Out.fin fun _ =>
 ((
  ((
   if (p0.op == (10 : Int)) then
    some (p0.op == (10 : Int))
   else
    some (p0.op == (37 : Int))) : Option Bool).bind (fun v27_0 =>
  if v27_0 then
   ((
    ((
     (tree_Name K p0.name).bind fun r35 =>
     if (!r35) then
      some true
     else
      some (decide ((1 : Int) < (p0.kids.length : Int)))) : Option Bool).bind (fun v33_0 =>
    if v33_0 then
     outM (
      outM (
       some false))
    else
     some (.go ()))) : Option (Out Unit _)).bind (Out.fin fun _ =>
   (must r12.2.isNone).bind fun _ =>
   ((iter (S := Int × (List Int)) (R := (List Int)) K (fun again (i44_0, i44_1) =>
    if (decide (i44_0 < (p0.kids.length : Int))) then
     (appO 8 i44_1 [(1 : Int)]).bind fun l49 =>
     again (IntKind.wrap .i64 (i44_0 + (1 : Int)), l49)
    else
     some i44_1) ((0 : Int), [])) : Option (List Int)).bind (fun e45_0 =>
   some (.go (e45_0, p1))))
  else
   if (p0.op == (54 : Int)) then
    ((
     ((
      if (!(p0.name.toList == (⟨#[]⟩ : ByteArray).toList)) then
       some true
      else
       some (decide ((p0.kids.length : Int) < (2 : Int)))) : Option Bool).bind (fun v54_0 =>
     if v54_0 then
      outM (
       outM (
        some false))
     else
      some (.go ()))) : Option (Out Unit _)).bind (Out.fin fun _ =>
    (must r12.2.isNone).bind fun _ =>
    ((iter (S := Int × (List Int)) (R := Out (List Int) _) K (fun again (i63_0, i63_1) =>
     if (decide (i63_0 < (IntKind.wrap .i64 ((p0.kids.length : Int) - (1 : Int))))) then
      ((
       (idx p0.kids i63_0).bind fun x70 =>
       ((
        ((
         if (x70.op != (55 : Int)) then
          if (x70.op != (56 : Int)) then
           some true
          else
           some (i63_0 != (IntKind.wrap .i64 ((IntKind.wrap .i64 ((p0.kids.length : Int) - (1 : Int))) - (1 : Int))))
         else
          some false) : Option Bool).bind (fun v74_0 =>
        if v74_0 then
         outM (
          outM (
           outM (
            outM (
             some false))))
        else
         some (.go ()))) : Option (Out Unit _)).bind (Out.fin fun _ =>
       (cutL p0.kids none (some i63_0)).bind fun s79 =>
       ((iter (S := Int) (R := Out Unit _) K (fun again i81_0 =>
        if (decide (i81_0 < (s79.length : Int))) then
         ((
          (idx s79 i81_0).bind fun x88 =>
          ((
           if (x70.op == (55 : Int)) then
            some (x88.name.toList == x70.name.toList)
           else
            some false) : Option Bool).bind (fun v90_0 =>
          if v90_0 then
           outM (
            outM (
             outM (
              outM (
               outM (
                some false)))))
          else
           some (.go ()))) : Option (Out Unit _)).bind (Out.fin fun _ =>
         again (IntKind.wrap .i64 (i81_0 + (1 : Int))))
        else
         some (.go ())) (0 : Int)) : Option (Out Unit _)).bind (Out.fin fun _ =>
       (appO 8 i63_1 [(4 : Int)]).bind fun l94 =>
       some (.go l94)))) : Option (Out (List Int) _)).bind (Out.fin fun v68_0 =>
      again (IntKind.wrap .i64 (i63_0 + (1 : Int)), v68_0))
     else
      some (.go i63_1)) ((0 : Int), [])) : Option (Out (List Int) _)).bind (Out.fin fun e64_0 =>
    (appO 8 e64_0 [(2 : Int)]).bind fun l96 =>
    some (.go (l96, (Tree_placeA.mk p1.inDiff p1.inFDiff true)))))
   else
    if (p0.op == (3 : Int)) then
     ((
      if p1.inDiff then
       some true
      else
       if p1.inFDiff then
        some true
       else
        some p1.inFlow) : Option Bool).bind (fun v99_0 =>
     if v99_0 then
      outM (
       some false)
     else
      some (.go ((r12.2.getD []), p1)))
    else
     if (p0.op == (12 : Int)) then
      ((
       ((
        if p1.inDiff then
         some true
        else
         some p1.inFlow) : Option Bool).bind (fun v107_0 =>
       if v107_0 then
        outM (
         outM (
          some false))
       else
        some (.go ()))) : Option (Out Unit _)).bind (Out.fin fun _ =>
      some (.go ((r12.2.getD []), (Tree_placeA.mk true p1.inFDiff p1.inFlow))))
     else
      if (p0.op == (39 : Int)) then
       ((
        ((
         if p1.inFlow then
          some true
         else
          if ((p0.kids.length : Int) != (1 : Int)) then
           some true
          else
           (idx p0.kids (0 : Int)).bind fun x118 =>
           (tree_differentiable K x118).bind fun r120 =>
           some (!r120)) : Option Bool).bind (fun v114_0 =>
        if v114_0 then
         outM (
          outM (
           some false))
        else
         some (.go ()))) : Option (Out Unit _)).bind (Out.fin fun _ =>
       some (.go ((r12.2.getD []), (Tree_placeA.mk p1.inDiff true p1.inFlow))))
      else
       some (.go ((r12.2.getD []), p1)))) : Option (Out ((List Int) × Tree_placeA) _)).bind (Out.fin fun (v25_0, v25_1) =>
 if ((p0.kids.length : Int) != (v25_0.length : Int)) then
  some false
 else
  ((iter (S := Int) (R := Out Unit _) K (fun again i124_0 =>
   if (decide (i124_0 < (p0.kids.length : Int))) then
    ((
     (idx p0.kids i124_0).bind fun x131 =>
     ((
      (tree_Sort K x131.op).bind fun r135 =>
      (idx v25_0 i124_0).bind fun x137 =>
      if (r135 != x137) then
       some true
      else
       (self84 (x131, v25_1)).bind fun r140 =>
       some (!r140)) : Option Bool).bind (fun v133_0 =>
     if v133_0 then
      outM (
       outM (
        some false))
     else
      some (.go ()))) : Option (Out Unit _)).bind (Out.fin fun _ =>
    again (IntKind.wrap .i64 (i124_0 + (1 : Int))))
   else
    some (.go ())) (0 : Int)) : Option (Out Unit _)).bind (Out.fin fun _ =>
  if (p0.op == (8 : Int)) then
   (idx p0.kids (1 : Int)).bind fun x144 =>
   if (x144.op == (1 : Int)) then
    some (decide ((0 : Int) < (x144.num.num.length : Int)))
   else
    some false
  else
   if (p0.op == (9 : Int)) then
    (idx p0.kids (1 : Int)).bind fun x148 =>
    if (x148.op == (1 : Int)) then
     if ((x148.num.num.length : Int) == (0 : Int)) then
      some true
     else
      if ((x148.num.num.length : Int) == (1 : Int)) then
       (idx x148.num.num (0 : Int)).bind fun x153 =>
       some (decide (x153 ≤ (20 : Int)))
      else
       some false
    else
     some false
   else
    some true))))
set_option maxHeartbeats 4000000 in
theorem tree_formed_step (K : Nat) (self84 : (NodeA × Tree_placeA) → Option Bool) (hself84 : ∀ (q : NodeA × Tree_placeA) (r : Bool), self84 q = some r → Cn Tryz.prog 84 [aggV q.1.enc, aggV q.2.enc] (.d (.val (.bool r)))) (p0 : NodeA) (p1 : Tree_placeA) (r : Bool) (h : tree_formed_body K self84 p0 p1 = some r) : Cn Tryz.prog 84 [aggV p0.enc, aggV p1.enc] (.d (.val (.bool r))) := by
 refine Cn.oz Tryz.func84 Tryz.call84 Tryz.ntmps84 Tryz.results84 fun hfit => ?_
 unfold tree_formed_body at h
 refine AW.kr [] [0, 1] ?_
 refine AW.ks [0, 1] [2, 3] ?_
 refine AW.jo h (fun _ => [(2, .ptr 0 6 0 0), (3, .ptr 1 3 0 0)]) (fun _ => [vE p0.enc, vE p1.enc]) (fun oJ2 h hJ2 => ?_) fun ⟨⟩ h => ?_
 ·refine AW.ro ?_
  refine AW.ks [0, 1] [2, 3, 17] ?_
  refine AW.tt h (fun hb3 h => ?_) fun hb3 h => ?_
  ·refine AW.ro ?_
   refine cm h tree_natural_ok fun r4 hx5 h => ?_
   refine AW.ks [0, 1] [2, 3, 21] ?_
   refine AW.tk h (fun hb6 h => ?_) fun hb6 h => ?_
   ·refine AW.ro ?_
    refine AW.ret ?_
    have h := up h hJ2
    cases h; refine nz ?_; exact .same _
   exact jo [0, 1] h
  refine AW.jn h (fun v7_0 => [(2, .ptr 0 6 0 0), (3, .ptr 1 3 0 0), (38, vB v7_0)]) (fun v7_0 => [vE p0.enc, vE p1.enc]) (fun oJ8 h => ?_) fun v7_0 h => ?_
  ·refine AW.rp ?_
   refine sK h (fun hb9 h => ?_) fun hb9 h => ?_
   ·exact ja [0, 1] h
   refine sK h (fun hb10 h => ?_) fun hb10 h => ?_
   ·exact ja [0, 1] h
   exact ja [0, 1] h
  refine AW.tk h (fun hb11 h => ?_) fun hb11 h => ?_
  ·refine AW.ro ?_
   refine AW.ret ?_
   have h := up h hJ2
   cases h; refine nz ?_; exact .same _
  exact jo [0, 1] h
 refine AW.ro ?_
 refine cm h tree_shape_ok fun r12 hx13 h => ?_
 refine AW.ks [0, 1] [2, 3, 5, 6] ?_
 refine AW.jo h (fun _ => [(2, .ptr 0 6 0 0), (3, .ptr 1 3 0 0), (6, nilV i64V r12.2)]) (fun _ => [vE p0.enc, vE p1.enc]) (fun oJ15 h hJ15 => ?_) fun ⟨⟩ h => ?_
 ·refine AW.jn h (fun v16_0 => [(2, .ptr 0 6 0 0), (3, .ptr 1 3 0 0), (6, nilV i64V r12.2), (70, vB v16_0)]) (fun v16_0 => [vE p0.enc, vE p1.enc]) (fun oJ17 h => ?_) fun v16_0 h => ?_
  ·refine AW.rp ?_
   refine sK h (fun hb18 h => ?_) fun hb18 h => ?_
   ·refine cm h tree_Name_ok fun r19 hx20 h => ?_
    refine sK h (fun hb21 h => ?_) fun hb21 h => ?_
    ·exact ja [0, 1] h
    exact ja [0, 1] h
   refine sK h (fun hb22 h => ?_) fun hb22 h => ?_
   ·refine sK h (fun hb23 h => ?_) fun hb23 h => ?_
    ·exact ja [0, 1] h
    exact ja [0, 1] h
   exact ja [0, 1] h
  refine AW.tk h (fun hb24 h => ?_) fun hb24 h => ?_
  ·refine AW.ro ?_
   refine AW.ret ?_
   have h := up h hJ15
   cases h; refine nz ?_; exact .same _
  exact jo [0, 1] h
 refine AW.jo h (fun (v25_0, v25_1) => [(2, .ptr 0 6 0 0), (3, .ptr 1 3 0 0), (6, vL i64V v25_0)]) (fun (v25_0, v25_1) => [vE p0.enc, vE v25_1.enc]) (fun oJ26 h hJ26 => ?_) fun ⟨v25_0, v25_1⟩ h => ?_
 ·refine AW.ro ?_
  refine AW.ks [0, 1] [2, 3, 6, 72] ?_
  refine AW.block ?_
  refine AW.jn h (fun v27_0 => [(2, .ptr 0 6 0 0), (3, .ptr 1 3 0 0), (6, nilV i64V r12.2), (72, vI p0.op), (73, vB v27_0)]) (fun v27_0 => [vE p0.enc, vE p1.enc]) (fun oJ28 h => ?_) fun v27_0 h => ?_
  ·refine AW.ro ?_
   refine AW.ks [0, 1] [2, 3, 6, 72, 73] ?_
   refine AW.tt h (fun hb29 h => ?_) fun hb29 h => ?_
   ·refine AW.sk ?_
    exact ja [0, 1] h
   refine AW.rp ?_
   exact ja [0, 1] h
  refine AW.tt h (fun hb30 h => ?_) fun hb30 h => ?_
  ·refine AW.jo h (fun _ => [(2, .ptr 0 6 0 0), (3, .ptr 1 3 0 0), (6, nilV i64V r12.2)]) (fun _ => [vE p0.enc, vE p1.enc]) (fun oJ32 h hJ32 => ?_) fun ⟨⟩ h => ?_
   ·refine AW.jn h (fun v33_0 => [(2, .ptr 0 6 0 0), (3, .ptr 1 3 0 0), (6, nilV i64V r12.2), (85, vB v33_0)]) (fun v33_0 => [vE p0.enc, vE p1.enc]) (fun oJ34 h => ?_) fun v33_0 h => ?_
    ·refine AW.rp ?_
     refine cm h tree_Name_ok fun r35 hx36 h => ?_
     refine sK h (fun hb37 h => ?_) fun hb37 h => ?_
     ·exact ja [0, 1] h
     exact ja [0, 1] h
    refine AW.tk h (fun hb38 h => ?_) fun hb38 h => ?_
    ·refine AW.ro ?_
     refine AW.ret ?_
     have h := up h hJ32
     have h := up h hJ26
     cases h; refine nz ?_; exact .same _
    exact jo [0, 1] h
   refine AW.ro ?_
   refine AW.ks [0, 1] [2, 3, 6, 88, 89] ?_
   apply bE h; intro _ hx43 h; have hx43 := must_none hx43
   refine AW.ks [0, 1] [2, 3, 6, 88, 89] ?_
   refine AW.lm h (fun e45_0 => [(2, .ptr 0 6 0 0), (3, .ptr 1 3 0 0), (6, accV 2 1 ((e45_0.map i64V).map (·.map .d)))]) (fun e45_0 => [vE p0.enc, vE p1.enc, accO 1 ((e45_0.map i64V).map (·.map .d))]) (fun (i44_0, i44_1) => [(2, .ptr 0 6 0 0), (3, .ptr 1 3 0 0), (6, accV 2 1 ((i44_1.map i64V).map (·.map .d))), (88, vI (p0.kids.length : Int)), (89, vI i44_0)]) (fun (i44_0, i44_1) => [vE p0.enc, vE p1.enc, accO 1 ((i44_1.map i64V).map (·.map .d))]) [0, 1, 1002] (fun oJ47 again ⟨i44_0, i44_1⟩ h => ?_) fun e45_0 h => ?_
   ·try dsimp only at h
    refine AW.ro ?_
    refine AW.ks [0, 1, 2] [2, 3, 6, 88, 89, 90] ?_
    refine AW.one ?_
    refine AW.tt h (fun hb48 h => ?_) fun hb48 h => ?_
    ·refine AW.sk ?_
     refine AW.ks [0, 1, 2] [2, 3, 6, 88, 89] ?_
     refine AW.one ?_
     refine AW.block ?_
     refine AW.rp ?_
     refine ag (f := i64V) h fun l49 hx50 h => ?_
     refine AW.ks [0, 1, 5] [2, 3, 6, 88, 89] ?_
     refine AW.rp ?_
     exact na [0, 1, 2] h
    refine AW.ex ?_
    exact ja [0, 1, 2] h
   refine JoinQ.mkS (e45_0, p1) [0, 1] [2] [(6, .d (slD i64V e45_0))] [] (Option.some.inj h).symm (by simp only [go_sem, reduceEqDiff, reduceAdd, reduceSub, reduceMul, reduceLeDiff, reduceLT, Nat.reduceBEq, reduceIte, sealL_cons, sealL_nil]; exact sealAcc (by simp only [go_sem, reduceEqDiff, reduceAdd, reduceSub, reduceMul, reduceLeDiff, reduceLT, Nat.reduceBEq, reduceIte])) (by simp only [go_sem, reduceEqDiff, reduceAdd, reduceSub, reduceMul, reduceLeDiff, reduceLT, Nat.reduceBEq, reduceIte, sealH_cons, sealH_nil]) (by simp only [go_sem, reduceEqDiff, reduceAdd, reduceSub, reduceMul, reduceLeDiff, reduceLT, Nat.reduceBEq, reduceIte])
  refine AW.ro ?_
  refine AW.ks [0, 1] [2, 3, 6, 72, 95] ?_
  refine AW.tt h (fun hb51 h => ?_) fun hb51 h => ?_
  ·refine AW.jo h (fun _ => [(2, .ptr 0 6 0 0), (3, .ptr 1 3 0 0), (6, nilV i64V r12.2)]) (fun _ => [vE p0.enc, vE p1.enc]) (fun oJ53 h hJ53 => ?_) fun ⟨⟩ h => ?_
   ·refine AW.jn h (fun v54_0 => [(2, .ptr 0 6 0 0), (3, .ptr 1 3 0 0), (6, nilV i64V r12.2), (105, vB v54_0)]) (fun v54_0 => [vE p0.enc, vE p1.enc]) (fun oJ55 h => ?_) fun v54_0 h => ?_
    ·refine AW.rp ?_
     refine sK h (fun hb56 h => ?_) fun hb56 h => ?_
     ·exact ja [0, 1] h
     exact ja [0, 1] h
    refine AW.tk h (fun hb57 h => ?_) fun hb57 h => ?_
    ·refine AW.ro ?_
     refine AW.ret ?_
     have h := up h hJ53
     have h := up h hJ26
     cases h; refine nz ?_; exact .same _
    exact jo [0, 1] h
   refine AW.ro ?_
   refine AW.ks [0, 1] [2, 3, 6, 7] ?_
   refine AW.one ?_
   refine AW.ro ?_
   refine AW.ks [0, 1] [2, 3, 6, 7, 8] ?_
   apply bE h; intro _ hx62 h; have hx62 := must_none hx62
   refine AW.ks [0, 1] [2, 3, 6, 7, 8] ?_
   refine AW.lp h (fun e64_0 => [(2, .ptr 0 6 0 0), (3, .ptr 1 3 0 0), (6, accV 2 1 ((e64_0.map i64V).map (·.map .d)))]) (fun e64_0 => [vE p0.enc, vE p1.enc, accO 1 ((e64_0.map i64V).map (·.map .d))]) (fun (i63_0, i63_1) => [(2, .ptr 0 6 0 0), (3, .ptr 1 3 0 0), (6, accV 2 1 ((i63_1.map i64V).map (·.map .d))), (7, vI (IntKind.wrap .i64 ((p0.kids.length : Int) - (1 : Int)))), (8, vI i63_0)]) (fun (i63_0, i63_1) => [vE p0.enc, vE p1.enc, accO 1 ((i63_1.map i64V).map (·.map .d))]) [0, 1, 1002] (fun oJ66 hJ66 again ⟨i63_0, i63_1⟩ h => ?_) fun e64_0 h => ?_
   ·try dsimp only at h
    refine AW.one ?_
    refine AW.ro ?_
    refine AW.ks [0, 1, 2] [2, 3, 6, 7, 8, 112] ?_
    refine AW.tt h (fun hb67 h => ?_) fun hb67 h => ?_
    ·refine AW.sk ?_
     refine AW.ks [0, 1, 2] [2, 3, 6, 7, 8] ?_
     refine AW.jo h (fun v68_0 => [(2, .ptr 0 6 0 0), (3, .ptr 1 3 0 0), (6, accV 2 1 ((v68_0.map i64V).map (·.map .d))), (7, vI (IntKind.wrap .i64 ((p0.kids.length : Int) - (1 : Int)))), (8, vI i63_0)]) (fun v68_0 => [vE p0.enc, vE p1.enc, accO 1 ((v68_0.map i64V).map (·.map .d))]) (fun oJ69 h hJ69 => ?_) fun v68_0 h => ?_
     ·refine AW.block ?_
      refine AW.ro ?_
      refine bx h fun x70 h0 h1 h => ?_
      refine AW.ks [0, 1, 2, 8] [2, 3, 6, 7, 8, 9] ?_
      refine AW.jo h (fun _ => [(2, .ptr 0 6 0 0), (3, .ptr 1 3 0 0), (6, accV 2 1 ((i63_1.map i64V).map (·.map .d))), (7, vI (IntKind.wrap .i64 ((p0.kids.length : Int) - (1 : Int)))), (8, vI i63_0), (9, .ptr 3 6 0 0)]) (fun _ => [vE p0.enc, vE p1.enc, accO 1 ((i63_1.map i64V).map (·.map .d)), vE x70.enc]) (fun oJ73 h hJ73 => ?_) fun ⟨⟩ h => ?_
      ·refine AW.jn h (fun v74_0 => [(2, .ptr 0 6 0 0), (3, .ptr 1 3 0 0), (6, accV 2 1 ((i63_1.map i64V).map (·.map .d))), (7, vI (IntKind.wrap .i64 ((p0.kids.length : Int) - (1 : Int)))), (8, vI i63_0), (9, .ptr 3 6 0 0), (133, vB v74_0)]) (fun v74_0 => [vE p0.enc, vE p1.enc, accO 1 ((i63_1.map i64V).map (·.map .d)), vE x70.enc]) (fun oJ75 h => ?_) fun v74_0 h => ?_
       ·refine AW.rp ?_
        refine sK h (fun hb76 h => ?_) fun hb76 h => ?_
        ·refine sK h (fun hb77 h => ?_) fun hb77 h => ?_
         ·exact ja [0, 1, 2, 3] h
         exact ja [0, 1, 2, 3] h
        exact ja [0, 1, 2, 3] h
       refine AW.tk h (fun hb78 h => ?_) fun hb78 h => ?_
       ·refine AW.ro ?_
        refine AW.ret ?_
        have h := up h hJ73
        have h := up h hJ69
        have h := up h hJ66
        have h := up h hJ26
        cases h; refine nz ?_; exact .same _
       exact jo [0, 1, 2, 3] h
      refine AW.one ?_
      refine AW.ro ?_
      refine bb h fun s79 hx80 h => ?_
      refine AW.ks [0, 1, 2, 3] [2, 3, 6, 7, 8, 9, 137, 138, 139] ?_
      refine AW.lp h (fun _ => [(2, .ptr 0 6 0 0), (3, .ptr 1 3 0 0), (6, accV 2 1 ((i63_1.map i64V).map (·.map .d))), (7, vI (IntKind.wrap .i64 ((p0.kids.length : Int) - (1 : Int)))), (8, vI i63_0)]) (fun _ => [vE p0.enc, vE p1.enc, accO 1 ((i63_1.map i64V).map (·.map .d))]) (fun i81_0 => [(2, .ptr 0 6 0 0), (3, .ptr 1 3 0 0), (6, accV 2 1 ((i63_1.map i64V).map (·.map .d))), (7, vI (IntKind.wrap .i64 ((p0.kids.length : Int) - (1 : Int)))), (8, vI i63_0), (9, .ptr 3 6 0 0), (137, vL NodeA.enc s79), (138, vI (s79.length : Int)), (139, vI i81_0)]) (fun i81_0 => [vE p0.enc, vE p1.enc, accO 1 ((i63_1.map i64V).map (·.map .d)), vE x70.enc]) [0, 1, 2, 3] (fun oJ84 hJ84 again i81_0 h => ?_) fun ⟨⟩ h => ?_
      ·refine AW.ro ?_
       refine AW.ks [0, 1, 2, 3] [2, 3, 6, 7, 8, 9, 137, 138, 139, 140] ?_
       refine AW.one ?_
       refine AW.tt h (fun hb85 h => ?_) fun hb85 h => ?_
       ·refine AW.sk ?_
        refine AW.ks [0, 1, 2, 3] [2, 3, 6, 7, 8, 9, 137, 138, 139] ?_
        refine AW.jo h (fun _ => [(2, .ptr 0 6 0 0), (3, .ptr 1 3 0 0), (6, accV 2 1 ((i63_1.map i64V).map (·.map .d))), (7, vI (IntKind.wrap .i64 ((p0.kids.length : Int) - (1 : Int)))), (8, vI i63_0), (9, .ptr 3 6 0 0), (137, vL NodeA.enc s79), (138, vI (s79.length : Int)), (139, vI i81_0)]) (fun _ => [vE p0.enc, vE p1.enc, accO 1 ((i63_1.map i64V).map (·.map .d)), vE x70.enc]) (fun oJ87 h hJ87 => ?_) fun ⟨⟩ h => ?_
        ·refine AW.block ?_
         refine AW.ro ?_
         refine bx h fun x88 h0 h1 h => ?_
         refine AW.ks [0, 1, 2, 3, 6] [2, 3, 6, 7, 8, 9, 11, 137, 138, 139] ?_
         refine AW.jn h (fun v90_0 => [(2, .ptr 0 6 0 0), (3, .ptr 1 3 0 0), (6, accV 2 1 ((i63_1.map i64V).map (·.map .d))), (7, vI (IntKind.wrap .i64 ((p0.kids.length : Int) - (1 : Int)))), (8, vI i63_0), (9, .ptr 3 6 0 0), (137, vL NodeA.enc s79), (138, vI (s79.length : Int)), (139, vI i81_0), (152, vB v90_0)]) (fun v90_0 => [vE p0.enc, vE p1.enc, accO 1 ((i63_1.map i64V).map (·.map .d)), vE x70.enc]) (fun oJ91 h => ?_) fun v90_0 h => ?_
         ·refine AW.rp ?_
          refine sK h (fun hb92 h => ?_) fun hb92 h => ?_
          ·exact ja [0, 1, 2, 3] h
          exact ja [0, 1, 2, 3] h
         refine AW.tk h (fun hb93 h => ?_) fun hb93 h => ?_
         ·refine AW.ro ?_
          refine AW.ret ?_
          have h := up h hJ87
          have h := up h hJ84
          have h := up h hJ69
          have h := up h hJ66
          have h := up h hJ26
          cases h; refine nz ?_; exact .same _
         exact jo [0, 1, 2, 3] h
        refine AW.rp ?_
        exact na [0, 1, 2, 3] h
       refine AW.ex ?_
       exact jo [0, 1, 2] h
      refine AW.ks [0, 1, 2] [2, 3, 6, 7, 8] ?_
      refine AW.rp ?_
      refine ag (f := i64V) h fun l94 hx95 h => ?_
      exact jo [0, 1, 5] h
     refine AW.rp ?_
     exact na [0, 1, 2] h
    refine AW.ex ?_
    exact jo [0, 1, 2] h
   refine AW.kr [0, 1, 2] [2, 3, 6] ?_
   refine ag (f := i64V) h fun l96 hx97 h => ?_
   refine AW.ks [0, 1, 5] [2, 3, 6] ?_
   refine AW.rp ?_
   refine JoinQ.mkS (l96, (Tree_placeA.mk p1.inDiff p1.inFDiff true)) [0, 1] [2] [(6, .d (slD i64V l96))] [] (Option.some.inj h).symm (by simp only [go_sem, reduceEqDiff, reduceAdd, reduceSub, reduceMul, reduceLeDiff, reduceLT, Nat.reduceBEq, reduceIte, sealL_cons, sealL_nil]; exact sealAcc (by simp only [go_sem, reduceEqDiff, reduceAdd, reduceSub, reduceMul, reduceLeDiff, reduceLT, Nat.reduceBEq, reduceIte])) (by simp only [go_sem, reduceEqDiff, reduceAdd, reduceSub, reduceMul, reduceLeDiff, reduceLT, Nat.reduceBEq, reduceIte, sealH_cons, sealH_nil]) (by simp only [go_sem, reduceEqDiff, reduceAdd, reduceSub, reduceMul, reduceLeDiff, reduceLT, Nat.reduceBEq, reduceIte])
  refine AW.ro ?_
  refine AW.ks [0, 1] [2, 3, 6, 72, 161] ?_
  refine AW.tt h (fun hb98 h => ?_) fun hb98 h => ?_
  ·refine AW.jn h (fun v99_0 => [(2, .ptr 0 6 0 0), (3, .ptr 1 3 0 0), (6, nilV i64V r12.2), (172, vB v99_0)]) (fun v99_0 => [vE p0.enc, vE p1.enc]) (fun oJ100 h => ?_) fun v99_0 h => ?_
   ·refine AW.rp ?_
    refine sK h (fun hb101 h => ?_) fun hb101 h => ?_
    ·exact ja [0, 1] h
    refine sK h (fun hb102 h => ?_) fun hb102 h => ?_
    ·exact ja [0, 1] h
    exact ja [0, 1] h
   refine AW.tk h (fun hb103 h => ?_) fun hb103 h => ?_
   ·refine AW.ro ?_
    refine AW.ret ?_
    have h := up h hJ26
    cases h; refine nz ?_; exact .same _
   refine JoinQ.mkS ((r12.2.getD []), p1) [0, 1] [] [(6, .d (slD i64V (r12.2.getD [])))] [] (Option.some.inj h).symm (by simp only [go_sem, reduceEqDiff, reduceAdd, reduceSub, reduceMul, reduceLeDiff, reduceLT, Nat.reduceBEq, reduceIte, sealL_cons, sealL_nil]; exact sealNil) (by simp only [go_sem, reduceEqDiff, reduceAdd, reduceSub, reduceMul, reduceLeDiff, reduceLT, Nat.reduceBEq, reduceIte, sealH_cons, sealH_nil]) (by simp only [go_sem, reduceEqDiff, reduceAdd, reduceSub, reduceMul, reduceLeDiff, reduceLT, Nat.reduceBEq, reduceIte])
  refine AW.ro ?_
  refine AW.ks [0, 1] [2, 3, 6, 72, 173] ?_
  refine AW.tt h (fun hb104 h => ?_) fun hb104 h => ?_
  ·refine AW.jo h (fun _ => [(2, .ptr 0 6 0 0), (3, .ptr 1 3 0 0), (6, nilV i64V r12.2)]) (fun _ => [vE p0.enc, vE p1.enc]) (fun oJ106 h hJ106 => ?_) fun ⟨⟩ h => ?_
   ·refine AW.jn h (fun v107_0 => [(2, .ptr 0 6 0 0), (3, .ptr 1 3 0 0), (6, nilV i64V r12.2), (180, vB v107_0)]) (fun v107_0 => [vE p0.enc, vE p1.enc]) (fun oJ108 h => ?_) fun v107_0 h => ?_
    ·refine AW.rp ?_
     refine sK h (fun hb109 h => ?_) fun hb109 h => ?_
     ·exact ja [0, 1] h
     exact ja [0, 1] h
    refine AW.tk h (fun hb110 h => ?_) fun hb110 h => ?_
    ·refine AW.ro ?_
     refine AW.ret ?_
     have h := up h hJ106
     have h := up h hJ26
     cases h; refine nz ?_; exact .same _
    exact jo [0, 1] h
   refine AW.rp ?_
   refine JoinQ.mkS ((r12.2.getD []), (Tree_placeA.mk true p1.inFDiff p1.inFlow)) [0, 1] [] [(6, .d (slD i64V (r12.2.getD [])))] [] (Option.some.inj h).symm (by simp only [go_sem, reduceEqDiff, reduceAdd, reduceSub, reduceMul, reduceLeDiff, reduceLT, Nat.reduceBEq, reduceIte, sealL_cons, sealL_nil]; exact sealNil) (by simp only [go_sem, reduceEqDiff, reduceAdd, reduceSub, reduceMul, reduceLeDiff, reduceLT, Nat.reduceBEq, reduceIte, sealH_cons, sealH_nil]) (by simp only [go_sem, reduceEqDiff, reduceAdd, reduceSub, reduceMul, reduceLeDiff, reduceLT, Nat.reduceBEq, reduceIte])
  refine AW.ro ?_
  refine AW.ks [0, 1] [2, 3, 6, 182] ?_
  refine AW.tk h (fun hb111 h => ?_) fun hb111 h => ?_
  ·refine AW.jo h (fun _ => [(2, .ptr 0 6 0 0), (3, .ptr 1 3 0 0), (6, nilV i64V r12.2)]) (fun _ => [vE p0.enc, vE p1.enc]) (fun oJ113 h hJ113 => ?_) fun ⟨⟩ h => ?_
   ·refine AW.jn h (fun v114_0 => [(2, .ptr 0 6 0 0), (3, .ptr 1 3 0 0), (6, nilV i64V r12.2), (199, vB v114_0)]) (fun v114_0 => [vE p0.enc, vE p1.enc]) (fun oJ115 h => ?_) fun v114_0 h => ?_
    ·refine AW.rp ?_
     refine sK h (fun hb116 h => ?_) fun hb116 h => ?_
     ·exact ja [0, 1] h
     refine sK h (fun hb117 h => ?_) fun hb117 h => ?_
     ·exact ja [0, 1] h
     refine bx h fun x118 h0 h1 h => ?_
     refine cm h tree_differentiable_ok fun r120 hx121 h => ?_
     exact ja [0, 1] h
    refine AW.tk h (fun hb122 h => ?_) fun hb122 h => ?_
    ·refine AW.ro ?_
     refine AW.ret ?_
     have h := up h hJ113
     have h := up h hJ26
     cases h; refine nz ?_; exact .same _
    exact jo [0, 1] h
   refine AW.rp ?_
   refine JoinQ.mkS ((r12.2.getD []), (Tree_placeA.mk p1.inDiff true p1.inFlow)) [0, 1] [] [(6, .d (slD i64V (r12.2.getD [])))] [] (Option.some.inj h).symm (by simp only [go_sem, reduceEqDiff, reduceAdd, reduceSub, reduceMul, reduceLeDiff, reduceLT, Nat.reduceBEq, reduceIte, sealL_cons, sealL_nil]; exact sealNil) (by simp only [go_sem, reduceEqDiff, reduceAdd, reduceSub, reduceMul, reduceLeDiff, reduceLT, Nat.reduceBEq, reduceIte, sealH_cons, sealH_nil]) (by simp only [go_sem, reduceEqDiff, reduceAdd, reduceSub, reduceMul, reduceLeDiff, reduceLT, Nat.reduceBEq, reduceIte])
  refine JoinQ.mkS ((r12.2.getD []), p1) [0, 1] [] [(6, .d (slD i64V (r12.2.getD [])))] [] (Option.some.inj h).symm (by simp only [go_sem, reduceEqDiff, reduceAdd, reduceSub, reduceMul, reduceLeDiff, reduceLT, Nat.reduceBEq, reduceIte, sealL_cons, sealL_nil]; exact sealNil) (by simp only [go_sem, reduceEqDiff, reduceAdd, reduceSub, reduceMul, reduceLeDiff, reduceLT, Nat.reduceBEq, reduceIte, sealH_cons, sealH_nil]) (by simp only [go_sem, reduceEqDiff, reduceAdd, reduceSub, reduceMul, reduceLeDiff, reduceLT, Nat.reduceBEq, reduceIte])
 try dsimp only at h
 refine AW.one ?_
 refine AW.ro ?_
 refine AW.ks [0, 1] [2, 3, 6, 206] ?_
 refine AW.tk h (fun hb123 h => ?_) fun hb123 h => ?_
 ·refine AW.ro ?_
  refine AW.ret ?_
  cases h; refine nz ?_; exact .same _
 refine AW.ks [0, 1] [2, 3, 6] ?_
 refine AW.one ?_
 refine AW.ro ?_
 refine AW.ks [0, 1] [2, 3, 6, 208, 209, 210] ?_
 refine AW.lp h (fun _ => [(2, .ptr 0 6 0 0)]) (fun _ => [vE p0.enc]) (fun i124_0 => [(2, .ptr 0 6 0 0), (3, .ptr 1 3 0 0), (6, vL i64V v25_0), (208, vL NodeA.enc p0.kids), (209, vI (p0.kids.length : Int)), (210, vI i124_0)]) (fun i124_0 => [vE p0.enc, vE v25_1.enc]) [0, 1] (fun oJ127 hJ127 again i124_0 h => ?_) fun ⟨⟩ h => ?_
 ·refine AW.ro ?_
  refine AW.ks [0, 1] [2, 3, 6, 208, 209, 210, 211] ?_
  refine AW.one ?_
  refine AW.tt h (fun hb128 h => ?_) fun hb128 h => ?_
  ·refine AW.sk ?_
   refine AW.ks [0, 1] [2, 3, 6, 208, 209, 210] ?_
   refine AW.jo h (fun _ => [(2, .ptr 0 6 0 0), (3, .ptr 1 3 0 0), (6, vL i64V v25_0), (208, vL NodeA.enc p0.kids), (209, vI (p0.kids.length : Int)), (210, vI i124_0)]) (fun _ => [vE p0.enc, vE v25_1.enc]) (fun oJ130 h hJ130 => ?_) fun ⟨⟩ h => ?_
   ·refine AW.block ?_
    refine AW.ro ?_
    refine bx h fun x131 h0 h1 h => ?_
    refine AW.ks [0, 1, 5] [2, 3, 6, 12, 13, 208, 209, 210] ?_
    refine AW.jn h (fun v133_0 => [(2, .ptr 0 6 0 0), (3, .ptr 1 3 0 0), (6, vL i64V v25_0), (208, vL NodeA.enc p0.kids), (209, vI (p0.kids.length : Int)), (210, vI i124_0), (228, vB v133_0)]) (fun v133_0 => [vE p0.enc, vE v25_1.enc]) (fun oJ134 h => ?_) fun v133_0 h => ?_
    ·refine AW.rp ?_
     refine pm h tree_Sort_ok fun r135 hx136 h => ?_
     refine bx h fun x137 h0 h1 h => ?_
     refine sK h (fun hb139 h => ?_) fun hb139 h => ?_
     ·exact ja [0, 1] h
     refine pm h (hself84 _ _) fun r140 hx141 h => ?_
     exact ja [0, 1] h
    refine AW.tk h (fun hb142 h => ?_) fun hb142 h => ?_
    ·refine AW.ro ?_
     refine AW.ret ?_
     have h := up h hJ130
     have h := up h hJ127
     cases h; refine nz ?_; exact .same _
    exact jo [0, 1] h
   refine AW.rp ?_
   exact na [0, 1] h
  refine AW.ex ?_
  exact jo [0] h
 refine AW.ks [0] [2] ?_
 refine AW.one ?_
 refine AW.ro ?_
 refine AW.ks [0] [2, 232] ?_
 refine AW.tk h (fun hb143 h => ?_) fun hb143 h => ?_
 ·refine AW.ro ?_
  refine bx h fun x144 h0 h1 h => ?_
  refine sK h (fun hb146 h => ?_) fun hb146 h => ?_
  ·refine AW.ret ?_
   cases h; refine nz ?_; exact .same _
  refine AW.ret ?_
  cases h; refine nz ?_; exact .same _
 refine AW.ks [0] [2] ?_
 refine AW.one ?_
 refine AW.ro ?_
 refine AW.ks [0] [2, 251] ?_
 refine AW.tk h (fun hb147 h => ?_) fun hb147 h => ?_
 ·refine AW.ro ?_
  refine bx h fun x148 h0 h1 h => ?_
  refine AW.kr [5] [14] ?_
  refine sK h (fun hb150 h => ?_) fun hb150 h => ?_
  ·refine sK h (fun hb151 h => ?_) fun hb151 h => ?_
   ·refine AW.ret ?_
    cases h; refine nz ?_; exact .same _
   refine sK h (fun hb152 h => ?_) fun hb152 h => ?_
   ·refine bx h fun x153 h0 h1 h => ?_
    refine AW.ret ?_
    cases h; refine nz ?_; exact .same _
   refine AW.ret ?_
   cases h; refine nz ?_; exact .same _
  refine AW.ret ?_
  cases h; refine nz ?_; exact .same _
 refine AW.kr [] [] ?_
 refine AW.ret ?_
 cases h; refine nz ?_; exact .same _
def tree_formed (K : Nat) (p0 : NodeA) (p1 : Tree_placeA) : Option Bool := iter K (fun self q => tree_formed_body K self q.1 q.2) (p0, p1)
theorem key_tree_formed {K : Nat} (k : Nat) : (∀ (q : NodeA × Tree_placeA) (r : Bool), iter k (fun self q => tree_formed_body K self q.1 q.2) q = some r → Cn Tryz.prog 84 [aggV q.1.enc, aggV q.2.enc] (.d (.val (.bool r)))) := by
 induction k with
 | zero => exact fun q r h => by cases h
 | succ k ih => exact fun q r h => tree_formed_step K _ ih q.1 q.2 r h
theorem tree_formed_ok {K : Nat} {p0 : NodeA} {p1 : Tree_placeA} {r : Bool} (h : tree_formed K p0 p1 = some r) : Cn Tryz.prog 84 [aggV p0.enc, aggV p1.enc] (.d (.val (.bool r))) := (key_tree_formed K) (p0, p1) r h
/-! ### isochrone/tree.within -/
def tree_within_body (K : Nat) (self82 : (NodeA × Int × Int) → Option (Bool × Int)) (p0 : NodeA) (p1 : Int) (p2 : Int) : Option (Bool × Int) := ((
  ((
   if (decide ((IntKind.wrap .i64 (p1 - (1 : Int))) < (0 : Int))) then
    some true
   else
    some (decide (p2 ≤ (0 : Int)))) : Option Bool).bind (fun v3_0 =>
  if v3_0 then
   outM (
    some (false, IntKind.wrap .i64 (p1 - (1 : Int))))
  else
   some (.go ()))) : Option (Out Unit _)).bind (Out.fin fun _ =>
 ((iter (S := Int × Int) (R := Out Int _) K (fun again (i7_0, i7_1) =>
  if (decide (i7_0 < (p0.kids.length : Int))) then
   (idx p0.kids i7_0).bind fun x12 =>
   (self82 (x12, i7_1, IntKind.wrap .i64 (p2 - (1 : Int)))).bind fun r14 =>
   if (!r14.1) then
    outM (
     some (false, r14.2))
   else
    again (IntKind.wrap .i64 (i7_0 + (1 : Int)), r14.2)
  else
   some (.go i7_1)) ((0 : Int), IntKind.wrap .i64 (p1 - (1 : Int)))) : Option (Out Int _)).bind (Out.fin fun e8_0 =>
 some (true, e8_0)))
set_option maxHeartbeats 4000000 in
theorem tree_within_step (K : Nat) (self82 : (NodeA × Int × Int) → Option (Bool × Int)) (hself82 : ∀ (q : NodeA × Int × Int) (r : Bool × Int), self82 q = some r → Cl Tryz.prog 82 [aggV q.1.enc, .ptr 0 1 0 0, .d (.val (.int .i64 q.2.2))] [⟨1, [[.d (.val (.int .i64 q.2.1))]]⟩] (.d (.val (.bool r.1))) [⟨1, [[.d (.val (.int .i64 r.2))]]⟩]) (p0 : NodeA) (p1 : Int) (p2 : Int) (r : Bool × Int) (h : tree_within_body K self82 p0 p1 p2 = some r) : Cl Tryz.prog 82 [aggV p0.enc, .ptr 0 1 0 0, .d (.val (.int .i64 p2))] [⟨1, [[.d (.val (.int .i64 p1))]]⟩] (.d (.val (.bool r.1))) [⟨1, [[.d (.val (.int .i64 r.2))]]⟩] := by
 refine Cl.ofA mixed Tryz.func82 rfl Tryz.call82 Tryz.ntmps82 Tryz.results82 (by simp) rfl (by simp only [go_sem, reduceEqDiff, reduceAdd, reduceSub, reduceMul, reduceLeDiff, reduceLT, Nat.reduceBEq, reduceIte, List.length_cons]) (by simp only [go_sem, reduceEqDiff, reduceAdd, reduceSub, reduceMul, reduceLeDiff, reduceLT, Nat.reduceBEq, reduceIte]) (by simp only [go_sem, reduceEqDiff, reduceAdd, reduceSub, reduceMul, reduceLeDiff, reduceLT, Nat.reduceBEq, reduceIte]) (by simp only [go_sem, reduceEqDiff, reduceAdd, reduceSub, reduceMul, reduceLeDiff, reduceLT, Nat.reduceBEq, reduceIte]) fun hfit => ?_
 unfold tree_within_body at h
 refine AW.kr [0] [0, 1, 2] ?_
 refine AW.kr [0, 1] [1, 2, 3] ?_
 refine AW.ks [0, 1] [1, 2, 3] ?_
 refine AW.jo h (fun _ => [(1, .ptr 0 1 0 0), (2, vI p2), (3, .ptr 1 6 0 0)]) (fun _ => [vE1 (vI (IntKind.wrap .i64 (p1 - (1 : Int)))), vE p0.enc]) (fun oJ2 h hJ2 => ?_) fun ⟨⟩ h => ?_
 ·refine AW.jn h (fun v3_0 => [(1, .ptr 0 1 0 0), (2, vI p2), (3, .ptr 1 6 0 0), (21, vB v3_0)]) (fun v3_0 => [vE1 (vI (IntKind.wrap .i64 (p1 - (1 : Int)))), vE p0.enc]) (fun oJ4 h => ?_) fun v3_0 h => ?_
  ·refine AW.rp ?_
   refine sK h (fun hb5 h => ?_) fun hb5 h => ?_
   ·exact ja [0, 1] h
   exact ja [0, 1] h
  refine AW.tk h (fun hb6 h => ?_) fun hb6 h => ?_
  ·refine AW.ro ?_
   refine AW.ret ?_
   have h := up h hJ2
   cases h; refine nz ?_; exact ⟨.same _, ⟨⟨.same _, trivial⟩, trivial⟩⟩
  exact jo [0, 1] h
 refine AW.one ?_
 refine AW.ro ?_
 refine AW.ks [0] [1, 2, 23, 24, 25] ?_
 refine AW.lp h (fun e8_0 => []) (fun e8_0 => [vE1 (vI e8_0)]) (fun (i7_0, i7_1) => [(1, .ptr 0 1 0 0), (2, vI p2), (23, vL NodeA.enc p0.kids), (24, vI (p0.kids.length : Int)), (25, vI i7_0)]) (fun (i7_0, i7_1) => [vE1 (vI i7_1)]) [0] (fun oJ10 hJ10 again ⟨i7_0, i7_1⟩ h => ?_) fun e8_0 h => ?_
 ·try dsimp only at h
  refine AW.ro ?_
  refine AW.ks [0] [1, 2, 23, 24, 25, 26] ?_
  refine AW.one ?_
  refine AW.tt h (fun hb11 h => ?_) fun hb11 h => ?_
  ·refine AW.sk ?_
   refine AW.ks [0] [1, 2, 23, 24, 25] ?_
   refine AW.one ?_
   refine AW.block ?_
   refine AW.ro ?_
   refine bx h fun x12 h0 h1 h => ?_
   refine AW.kr [0, 3] [1, 2, 8, 23, 24, 25] ?_
   apply bE h; intro r14 hx15 h
   have hc := nx (hself82 _ _ hx15)
   refine callK_loc [0] hc (by simp only [go_sem, reduceEqDiff, reduceAdd, reduceSub, reduceMul, reduceLeDiff, reduceLT, Nat.reduceBEq, reduceIte]) (by simp) (by simp only [go_sem, reduceEqDiff, reduceAdd, reduceSub, reduceMul, reduceLeDiff, reduceLT, Nat.reduceBEq, reduceIte]) ?_
   refine ns ?_
   refine AW.ks [0] [1, 2, 23, 24, 25, 34] ?_
   refine AW.tk h (fun hb16 h => ?_) fun hb16 h => ?_
   ·refine AW.ro ?_
    refine AW.ret ?_
    have h := up h hJ10
    cases h; refine nz ?_; exact ⟨.same _, ⟨⟨.same _, trivial⟩, trivial⟩⟩
   refine AW.ks [0] [1, 2, 23, 24, 25] ?_
   refine AW.rp ?_
   exact na [0] h
  refine AW.ex ?_
  exact jo [0] h
 refine AW.kr [0] [] ?_
 refine AW.ret ?_
 cases h; refine nz ?_; exact ⟨.same _, ⟨⟨.same _, trivial⟩, trivial⟩⟩
def tree_within (K : Nat) (p0 : NodeA) (p1 : Int) (p2 : Int) : Option (Bool × Int) := iter K (fun self q => tree_within_body K self q.1 q.2.1 q.2.2) (p0, p1, p2)
theorem key_tree_within {K : Nat} (k : Nat) : (∀ (q : NodeA × Int × Int) (r : Bool × Int), iter k (fun self q => tree_within_body K self q.1 q.2.1 q.2.2) q = some r → Cl Tryz.prog 82 [aggV q.1.enc, .ptr 0 1 0 0, .d (.val (.int .i64 q.2.2))] [⟨1, [[.d (.val (.int .i64 q.2.1))]]⟩] (.d (.val (.bool r.1))) [⟨1, [[.d (.val (.int .i64 r.2))]]⟩]) := by
 induction k with
 | zero => exact fun q r h => by cases h
 | succ k ih => exact fun q r h => tree_within_step K _ ih q.1 q.2.1 q.2.2 r h
theorem tree_within_ok {K : Nat} {p0 : NodeA} {p1 : Int} {p2 : Int} {r : Bool × Int} (h : tree_within K p0 p1 p2 = some r) : Cl Tryz.prog 82 [aggV p0.enc, .ptr 0 1 0 0, .d (.val (.int .i64 p2))] [⟨1, [[.d (.val (.int .i64 p1))]]⟩] (.d (.val (.bool r.1))) [⟨1, [[.d (.val (.int .i64 r.2))]]⟩] := (key_tree_within K) (p0, p1, p2) r h
/-! ### isochrone/tree.Check -/
def tree_Check (K : Nat) (p0 : NodeA) (p1 : Int) : Option Int := ((
  ((
   if (decide (p1 < (1 : Int))) then
    some true
   else
    some (decide ((3 : Int) < p1))) : Option Bool).bind (fun v3_0 =>
  if v3_0 then
   outM (
    some (1 : Int))
  else
   some (.go ()))) : Option (Out Unit _)).bind (Out.fin fun _ =>
 (tree_within K p0 (4000 : Int) (60 : Int)).bind fun r7 =>
 if (!r7.1) then
  some (2 : Int)
 else
  (tree_Sort K p0.op).bind fun r10 =>
  if (r10 != p1) then
   some (80 : Int)
  else
   (tree_formed K p0 (Tree_placeA.mk false false false)).bind fun r13 =>
   if (!r13) then
    some (3 : Int)
   else
    some (0 : Int))
set_option maxHeartbeats 4000000 in
theorem tree_Check_ok {K : Nat} {p0 : NodeA} {p1 : Int} {r : Int} (h : tree_Check K p0 p1 = some r) : Cn Tryz.prog 41 [aggV p0.enc, .d (.val (.int .i64 p1))] (.d (.val (.int .i64 r))) := by
 refine Cn.oz Tryz.func41 Tryz.call41 Tryz.ntmps41 Tryz.results41 fun hfit => ?_
 unfold tree_Check at h
 refine AW.kr [] [0, 1] ?_
 refine AW.ks [0] [1, 2] ?_
 refine AW.jo h (fun _ => [(1, vI p1), (2, .ptr 0 6 0 0)]) (fun _ => [vE p0.enc]) (fun oJ2 h hJ2 => ?_) fun ⟨⟩ h => ?_
 ·refine AW.jn h (fun v3_0 => [(1, vI p1), (2, .ptr 0 6 0 0), (11, vB v3_0)]) (fun v3_0 => [vE p0.enc]) (fun oJ4 h => ?_) fun v3_0 h => ?_
  ·refine AW.rp ?_
   refine sK h (fun hb5 h => ?_) fun hb5 h => ?_
   ·exact ja [0] h
   exact ja [0] h
  refine AW.tk h (fun hb6 h => ?_) fun hb6 h => ?_
  ·refine AW.ro ?_
   refine AW.ret ?_
   have h := up h hJ2
   cases h; refine nz ?_; exact .same _
  exact jo [0] h
 refine AW.ro ?_
 refine AW.ks [0, 1] [1, 2, 5] ?_
 refine AW.one ?_
 refine AW.ro ?_
 apply bE h; intro r7 hx8 h
 have hc := nx (tree_within_ok (h := hx8))
 refine callK_loc [1] hc (by simp only [go_sem, reduceEqDiff, reduceAdd, reduceSub, reduceMul, reduceLeDiff, reduceLT, Nat.reduceBEq, reduceIte]) (by simp) (by simp only [go_sem, reduceEqDiff, reduceAdd, reduceSub, reduceMul, reduceLeDiff, reduceLT, Nat.reduceBEq, reduceIte]) ?_
 refine ns ?_
 refine AW.ks [0] [1, 2, 14] ?_
 refine AW.tk h (fun hb9 h => ?_) fun hb9 h => ?_
 ·refine AW.ro ?_
  refine AW.ret ?_
  cases h; refine nz ?_; exact .same _
 refine AW.ks [0] [1, 2] ?_
 refine AW.one ?_
 refine AW.ro ?_
 refine cm h tree_Sort_ok fun r10 hx11 h => ?_
 refine AW.ks [0] [2, 19] ?_
 refine AW.tk h (fun hb12 h => ?_) fun hb12 h => ?_
 ·refine AW.ro ?_
  refine AW.ret ?_
  cases h; refine nz ?_; exact .same _
 refine AW.ks [0] [2] ?_
 refine AW.one ?_
 refine AW.ro ?_
 refine cm h tree_formed_ok fun r13 hx14 h => ?_
 refine AW.ks [] [23] ?_
 refine AW.tk h (fun hb15 h => ?_) fun hb15 h => ?_
 ·refine AW.ro ?_
  refine AW.ret ?_
  cases h; refine nz ?_; exact .same _
 refine AW.kr [] [] ?_
 refine AW.ret ?_
 cases h; refine nz ?_; exact .same _
/-! ### isochrone/rename.check -/
def rename_check (K : Nat) (p0 : NodeA) : Option Int := (tree_Sort K p0.op).bind fun r1 =>
 ((
  ((
   if (r1 == (0 : Int)) then
    some true
   else
    some (r1 == (4 : Int))) : Option Bool).bind (fun v5_0 =>
  if v5_0 then
   outM (
    some (80 : Int))
  else
   some (.go ()))) : Option (Out Unit _)).bind (Out.fin fun _ =>
 (tree_Check K p0 r1).bind fun r9 =>
 some r9)
set_option maxHeartbeats 4000000 in
theorem rename_check_ok {K : Nat} {p0 : NodeA} {r : Int} (h : rename_check K p0 = some r) : Cn Tryz.prog 18 [aggV p0.enc] (.d (.val (.int .i64 r))) := by
 refine Cn.oz Tryz.func18 Tryz.call18 Tryz.ntmps18 Tryz.results18 fun hfit => ?_
 unfold rename_check at h
 refine AW.kr [] [0] ?_
 refine AW.kr [0] [1] ?_
 refine cm h tree_Sort_ok fun r1 hx2 h => ?_
 refine AW.ks [0] [1, 3] ?_
 refine AW.jo h (fun _ => [(1, .ptr 0 6 0 0), (3, vI r1)]) (fun _ => [vE p0.enc]) (fun oJ4 h hJ4 => ?_) fun ⟨⟩ h => ?_
 ·refine AW.jn h (fun v5_0 => [(1, .ptr 0 6 0 0), (3, vI r1), (12, vB v5_0)]) (fun v5_0 => [vE p0.enc]) (fun oJ6 h => ?_) fun v5_0 h => ?_
  ·refine AW.rp ?_
   refine sK h (fun hb7 h => ?_) fun hb7 h => ?_
   ·exact ja [0] h
   exact ja [0] h
  refine AW.tk h (fun hb8 h => ?_) fun hb8 h => ?_
  ·refine AW.ro ?_
   refine AW.ret ?_
   have h := up h hJ4
   cases h; refine nz ?_; exact .same _
  exact jo [0] h
 refine AW.ro ?_
 refine cm h tree_Check_ok fun r9 hx10 h => ?_
 refine AW.ret ?_
 cases h; refine nz ?_; exact .same _
/-! ### isochrone/static.Uses -/
def static_Uses_body (K : Nat) (self52 : (NodeA × (List Int)) → Option Bool) (p0 : NodeA) (p1 : List Int) : Option Bool := ((iter (S := Int) (R := Out Unit _) K (fun again i1_0 =>
  if (decide (i1_0 < (p1.length : Int))) then
   (idx p1 i1_0).bind fun x6 =>
   if (p0.op == x6) then
    outM (
     some true)
   else
    again (IntKind.wrap .i64 (i1_0 + (1 : Int)))
  else
   some (.go ())) (0 : Int)) : Option (Out Unit _)).bind (Out.fin fun _ =>
 ((iter (S := Int) (R := Out Unit _) K (fun again i9_0 =>
  if (decide (i9_0 < (p0.kids.length : Int))) then
   (idx p0.kids i9_0).bind fun x14 =>
   (self52 (x14, p1)).bind fun r16 =>
   if r16 then
    outM (
     some true)
   else
    again (IntKind.wrap .i64 (i9_0 + (1 : Int)))
  else
   some (.go ())) (0 : Int)) : Option (Out Unit _)).bind (Out.fin fun _ =>
 some false))
set_option maxHeartbeats 4000000 in
theorem static_Uses_step (K : Nat) (self52 : (NodeA × (List Int)) → Option Bool) (hself52 : ∀ (q : NodeA × (List Int)) (r : Bool), self52 q = some r → Cn Tryz.prog 52 [aggV q.1.enc, .d (slD i64V q.2)] (.d (.val (.bool r)))) (p0 : NodeA) (p1 : List Int) (r : Bool) (h : static_Uses_body K self52 p0 p1 = some r) : Cn Tryz.prog 52 [aggV p0.enc, .d (slD i64V p1)] (.d (.val (.bool r))) := by
 refine Cn.oz Tryz.func52 Tryz.call52 Tryz.ntmps52 Tryz.results52 fun hfit => ?_
 unfold static_Uses_body at h
 refine AW.kr [] [0, 1] ?_
 refine AW.ks [0] [1, 2] ?_
 refine AW.one ?_
 refine AW.ro ?_
 refine AW.ks [0] [1, 2, 9, 10, 11] ?_
 refine AW.lp h (fun _ => [(1, vL i64V p1), (2, .ptr 0 6 0 0)]) (fun _ => [vE p0.enc]) (fun i1_0 => [(1, vL i64V p1), (2, .ptr 0 6 0 0), (9, vL i64V p1), (10, vI (p1.length : Int)), (11, vI i1_0)]) (fun i1_0 => [vE p0.enc]) [0] (fun oJ4 hJ4 again i1_0 h => ?_) fun ⟨⟩ h => ?_
 ·refine AW.ro ?_
  refine AW.ks [0] [1, 2, 9, 10, 11, 12] ?_
  refine AW.one ?_
  refine AW.tt h (fun hb5 h => ?_) fun hb5 h => ?_
  ·refine AW.sk ?_
   refine AW.ks [0] [1, 2, 9, 10, 11] ?_
   refine AW.one ?_
   refine AW.block ?_
   refine AW.ro ?_
   refine bx h fun x6 h0 h1 h => ?_
   refine AW.kr [0] [1, 2, 6, 9, 10, 11] ?_
   refine AW.ks [0] [1, 2, 9, 10, 11, 18] ?_
   refine AW.tk h (fun hb8 h => ?_) fun hb8 h => ?_
   ·refine AW.ro ?_
    refine AW.ret ?_
    have h := up h hJ4
    cases h; refine nz ?_; exact .same _
   refine AW.ks [0] [1, 2, 9, 10, 11] ?_
   refine AW.rp ?_
   exact na [0] h
  refine AW.ex ?_
  exact jo [0] h
 refine AW.ks [0] [1, 2] ?_
 refine AW.one ?_
 refine AW.ro ?_
 refine AW.ks [] [1, 21, 22, 23] ?_
 refine AW.lp h (fun _ => []) (fun _ => []) (fun i9_0 => [(1, vL i64V p1), (21, vL NodeA.enc p0.kids), (22, vI (p0.kids.length : Int)), (23, vI i9_0)]) (fun i9_0 => []) [] (fun oJ12 hJ12 again i9_0 h => ?_) fun ⟨⟩ h => ?_
 ·refine AW.ro ?_
  refine AW.ks [] [1, 21, 22, 23, 24] ?_
  refine AW.one ?_
  refine AW.tt h (fun hb13 h => ?_) fun hb13 h => ?_
  ·refine AW.sk ?_
   refine AW.ks [] [1, 21, 22, 23] ?_
   refine AW.one ?_
   refine AW.block ?_
   refine AW.ro ?_
   refine bx h fun x14 h0 h1 h => ?_
   refine AW.kr [2] [1, 8, 21, 22, 23] ?_
   refine cm h (hself52 _ _) fun r16 hx17 h => ?_
   refine AW.ks [] [1, 21, 22, 23, 29] ?_
   refine AW.tk h (fun hb18 h => ?_) fun hb18 h => ?_
   ·refine AW.ro ?_
    refine AW.ret ?_
    have h := up h hJ12
    cases h; refine nz ?_; exact .same _
   refine AW.ks [] [1, 21, 22, 23] ?_
   refine AW.rp ?_
   exact na [] h
  refine AW.ex ?_
  exact jo [] h
 refine AW.kr [] [] ?_
 refine AW.ret ?_
 cases h; refine nz ?_; exact .same _
def static_Uses (K : Nat) (p0 : NodeA) (p1 : List Int) : Option Bool := iter K (fun self q => static_Uses_body K self q.1 q.2) (p0, p1)
theorem key_static_Uses {K : Nat} (k : Nat) : (∀ (q : NodeA × (List Int)) (r : Bool), iter k (fun self q => static_Uses_body K self q.1 q.2) q = some r → Cn Tryz.prog 52 [aggV q.1.enc, .d (slD i64V q.2)] (.d (.val (.bool r)))) := by
 induction k with
 | zero => exact fun q r h => by cases h
 | succ k ih => exact fun q r h => static_Uses_step K _ ih q.1 q.2 r h
theorem static_Uses_ok {K : Nat} {p0 : NodeA} {p1 : List Int} {r : Bool} (h : static_Uses K p0 p1 = some r) : Cn Tryz.prog 52 [aggV p0.enc, .d (slD i64V p1)] (.d (.val (.bool r))) := (key_static_Uses K) (p0, p1) r h
/-! ### isochrone/rename.renamable -/
def rename_renamable (K : Nat) (p0 : NodeA) : Option Bool := (static_Uses K p0 [(11 : Int), (38 : Int), (61 : Int), (62 : Int), (56 : Int)]).bind fun r1 =>
 some (!r1)
set_option maxHeartbeats 4000000 in
theorem rename_renamable_ok {K : Nat} {p0 : NodeA} {r : Bool} (h : rename_renamable K p0 = some r) : Cn Tryz.prog 20 [aggV p0.enc] (.d (.val (.bool r))) := by
 refine Cn.oz Tryz.func20 Tryz.call20 Tryz.ntmps20 Tryz.results20 fun hfit => ?_
 unfold rename_renamable at h
 refine AW.kr [] [0] ?_
 refine AW.kr [0] [1] ?_
 refine cm h static_Uses_ok fun r1 hx2 h => ?_
 refine AW.ret ?_
 cases h; refine nz ?_; exact .same _
/-! ### isochrone/rename.uniform$1 -/
def rename_uniform_1 (K : Nat) (p0 : ByteArray) (p1 : ByteArray) (p2 : ByteArray) : Option ByteArray := if (p0.toList == p1.toList) then
  some p2
 else
  if (p0.toList == p2.toList) then
   some p1
  else
   some p0
set_option maxHeartbeats 4000000 in
theorem rename_uniform_1_ok {K : Nat} {p0 : ByteArray} {p1 : ByteArray} {p2 : ByteArray} {r : ByteArray} (h : rename_uniform_1 K p0 p1 p2 = some r) : Cn Tryz.prog 53 [.d (.val (.string p0)), .iptr [.val (.string p1)], .iptr [.val (.string p2)]] (.d (.val (.string r))) := by
 refine Cn.oz Tryz.func53 Tryz.call53 Tryz.ntmps53 Tryz.results53 fun hfit => ?_
 unfold rename_uniform_1 at h
 refine AW.kr [] [0, 1, 2] ?_
 refine AW.ks [] [0, 1, 2] ?_
 refine AW.one ?_
 refine AW.ro ?_
 refine AW.ks [] [0, 1, 2, 5] ?_
 refine AW.block ?_
 refine AW.ro ?_
 refine AW.ks [] [0, 1, 2, 5, 6] ?_
 refine AW.tt h (fun hb1 h => ?_) fun hb1 h => ?_
 ·refine AW.ro ?_
  refine AW.ret ?_
  cases h; refine nz ?_; exact .same _
 refine AW.ro ?_
 refine AW.ks [] [0, 1, 10] ?_
 refine AW.tk h (fun hb2 h => ?_) fun hb2 h => ?_
 ·refine AW.ro ?_
  refine AW.ret ?_
  cases h; refine nz ?_; exact .same _
 refine AW.kr [] [0] ?_
 refine AW.ret ?_
 cases h; refine nz ?_; exact .same _
/-! ### isochrone/rename.variable -/
def rename_variable (K : Nat) (p0 : Int) : Option Bool := ((
  if (p0 == (2 : Int)) then
   some (p0 == (2 : Int))
  else
   if (p0 == (3 : Int)) then
    some (p0 == (3 : Int))
   else
    if (p0 == (50 : Int)) then
     some (p0 == (50 : Int))
    else
     if (p0 == (51 : Int)) then
      some (p0 == (51 : Int))
     else
      if (p0 == (52 : Int)) then
       some (p0 == (52 : Int))
      else
       if (p0 == (55 : Int)) then
        some (p0 == (55 : Int))
       else
        if (p0 == (33 : Int)) then
         some (p0 == (33 : Int))
        else
         some (p0 == (34 : Int))) : Option Bool).bind (fun v1_0 =>
 if v1_0 then
  some true
 else
  some false)
set_option maxHeartbeats 4000000 in
theorem rename_variable_ok {K : Nat} {p0 : Int} {r : Bool} (h : rename_variable K p0 = some r) : Cn Tryz.prog 56 [.d (.val (.int .i64 p0))] (.d (.val (.bool r))) := by
 refine Cn.oz Tryz.func56 Tryz.call56 Tryz.ntmps56 Tryz.results56 fun hfit => ?_
 unfold rename_variable at h
 refine AW.kr [] [0] ?_
 refine AW.ks [] [0] ?_
 refine AW.one ?_
 refine AW.ro ?_
 refine AW.ks [] [3] ?_
 refine AW.block ?_
 refine AW.jn h (fun v1_0 => [(4, vB v1_0)]) (fun v1_0 => []) (fun oJ2 h => ?_) fun v1_0 h => ?_
 ·refine AW.ro ?_
  refine AW.ks [] [3, 4] ?_
  refine AW.tt h (fun hb3 h => ?_) fun hb3 h => ?_
  ·refine AW.sk ?_
   exact ja [] h
  refine AW.ro ?_
  refine AW.ks [] [3, 4] ?_
  refine AW.tt h (fun hb4 h => ?_) fun hb4 h => ?_
  ·refine AW.sk ?_
   exact ja [] h
  refine AW.ro ?_
  refine AW.ks [] [3, 4] ?_
  refine AW.tt h (fun hb5 h => ?_) fun hb5 h => ?_
  ·refine AW.sk ?_
   exact ja [] h
  refine AW.ro ?_
  refine AW.ks [] [3, 4] ?_
  refine AW.tt h (fun hb6 h => ?_) fun hb6 h => ?_
  ·refine AW.sk ?_
   exact ja [] h
  refine AW.ro ?_
  refine AW.ks [] [3, 4] ?_
  refine AW.tt h (fun hb7 h => ?_) fun hb7 h => ?_
  ·refine AW.sk ?_
   exact ja [] h
  refine AW.ro ?_
  refine AW.ks [] [3, 4] ?_
  refine AW.tt h (fun hb8 h => ?_) fun hb8 h => ?_
  ·refine AW.sk ?_
   exact ja [] h
  refine AW.ro ?_
  refine AW.ks [] [3, 4] ?_
  refine AW.tt h (fun hb9 h => ?_) fun hb9 h => ?_
  ·refine AW.sk ?_
   exact ja [] h
  refine AW.rp ?_
  exact ja [] h
 refine AW.tk h (fun hb10 h => ?_) fun hb10 h => ?_
 ·refine AW.ro ?_
  refine AW.ret ?_
  cases h; refine nz ?_; exact .same _
 refine AW.kr [] [] ?_
 refine AW.ret ?_
 cases h; refine nz ?_; exact .same _
/-! ### isochrone/tree.Copy -/
def tree_Copy_body (K : Nat) (self55 : NodeA → Option NodeA) (p0 : NodeA) : Option NodeA := ((
  if (decide ((0 : Int) < (p0.num.num.length : Int))) then
   (appO 4 [] p0.num.num).bind fun l4 =>
   some l4
  else
   some []) : Option (List Int)).bind (fun v1_0 =>
 ((
  if (decide ((0 : Int) < (p0.num.den.length : Int))) then
   (appO 4 [] p0.num.den).bind fun l9 =>
   some l9
  else
   some []) : Option (List Int)).bind (fun v6_0 =>
 ((iter (S := Int × (List NodeA)) (R := (List NodeA)) K (fun again (i11_0, i11_1) =>
  if (decide (i11_0 < (p0.kids.length : Int))) then
   (idx p0.kids i11_0).bind fun x16 =>
   (self55 (x16)).bind fun r18 =>
   (appO 104 i11_1 [r18]).bind fun l20 =>
   again (IntKind.wrap .i64 (i11_0 + (1 : Int)), l20)
  else
   some i11_1) ((0 : Int), [])) : Option (List NodeA)).bind (fun e12_0 =>
 some (NodeA.mk p0.op p0.name (RatA.mk p0.num.neg v1_0 v6_0) e12_0))))
set_option maxHeartbeats 4000000 in
theorem tree_Copy_stepO (K : Nat) (self55 : NodeA → Option NodeA) (hself55 : ∀ (q : NodeA) (r : NodeA), self55 q = some r → Cn Tryz.prog 55 [aggV q.enc] (aggV r.enc)) (p0 : NodeA) (r : NodeA) (h : tree_Copy_body K self55 p0 = some r) : Co Tryz.prog 55 [aggV p0.enc] (.agg [.d (.val (.int .i64 r.op)), .d (.val (.string r.name)), .d (.val (.bool r.num.neg)), .d (slD u32V r.num.num), .d (slD u32V r.num.den), accV 0 6 ((r.kids.map NodeA.enc).map (·.map .d))]) (accO 6 ((r.kids.map NodeA.enc).map (·.map .d))) := by
 refine Co.ofA mixed Tryz.func55 rfl Tryz.call55 Tryz.ntmps55 Tryz.results55 (by simp) datO_acc (by simp only [go_sem, reduceEqDiff, reduceAdd, reduceSub, reduceMul, reduceLeDiff, reduceLT, Nat.reduceBEq, reduceIte]) fun hfit => ?_
 unfold tree_Copy_body at h
 refine AW.kp [] [0] ?_
 refine AW.op mixed ?_
 refine AW.kp [0, 1] [1, 2] ?_
 refine AW.op mixed ?_
 refine AW.kp [0, 1, 11] [1, 2, 3] ?_
 refine AW.one ?_
 refine obindE h fun oJ2 h hJ2 => ?_
 refine AW.join (S := (List Int)) (fun v1_0 => [(1, .ptr 0 6 0 0), (2, .ptr 1 6 0 0), (3, .ptr 2 6 0 0)]) (fun v1_0 => [some ⟨6, [[.d (.val (.int .i64 p0.op)), .d (.val (.string p0.name)), .d (.val (.bool p0.num.neg)), .d (slD u32V p0.num.num), .d (slD u32V p0.num.den), .d (slD NodeA.enc p0.kids)]]⟩, some ⟨6, [[.d (.val (.int .i64 (0 : Int))), .d (.val (.string (⟨#[]⟩ : ByteArray))), .d (.val (.bool false)), .d (.val (.slice none 0 0)), .d (.val (.slice none 0 0)), .d (.val (.slice none 0 0))]]⟩, some ⟨6, [[.d (.val (.int .i64 p0.op)), .d (.val (.string p0.name)), .d (.val (.bool p0.num.neg)), .d (slD u32V v1_0), .d (.val (.slice none 0 0)), .d (.val (.slice none 0 0))]]⟩]) (fun x => x = oJ2) ?_ ?_
 ·skip
  refine AW.op mixed ?_
  refine AW.kp [0, 1, 2] [1, 2, 3, 20] ?_
  refine AW.ts (decide ((0 : Int) < (p0.num.num.length : Int))) (fun hb3 => ?_) (fun hb3 => ?_)
  ·have h := ifT hb3 h
   refine AW.rg mixed ?_
   apply obindE h; intro l4 hx5 h
   refine appD hx5 rfl (by simp only [go_sem, reduceEqDiff, reduceAdd, reduceSub, reduceMul, reduceLeDiff, reduceLT, Nat.reduceBEq, reduceIte]) ?_
   try simp only [go_sem, reduceEqDiff, reduceAdd, reduceSub, reduceMul, reduceLeDiff, reduceLT, Nat.reduceBEq, reduceIte]
   exact JoinQ.ar l4 [0, 1, 2] (Option.some.inj h)
  have h := ifF hb3 h
  refine AW.sk ?_
  refine JoinQ.mkS [] [0, 1, 2] [] [] [(2, ⟨6, [[.d (.val (.int .i64 p0.op)), .d (.val (.string p0.name)), .d (.val (.bool p0.num.neg)), .d (slD u32V []), .d (.val (.slice none 0 0)), .d (.val (.slice none 0 0))]]⟩)] (Option.some.inj h) (by simp only [go_sem, reduceEqDiff, reduceAdd, reduceSub, reduceMul, reduceLeDiff, reduceLT, Nat.reduceBEq, reduceIte, sealL_cons, sealL_nil]) (by simp only [go_sem, reduceEqDiff, reduceAdd, reduceSub, reduceMul, reduceLeDiff, reduceLT, Nat.reduceBEq, reduceIte, sealH_cons, sealH_nil]; exact ⟨⟨.same _, .same _, .same _, .nil, .same _, .same _, trivial⟩, trivial⟩) (by simp only [go_sem, reduceEqDiff, reduceAdd, reduceSub, reduceMul, reduceLeDiff, reduceLT, Nat.reduceBEq, reduceIte])
 rintro v1_0 rfl
 have h := hJ2
 try dsimp only [Out.fin] at h
 refine nz ?_
 refine AW.one ?_
 refine obindE h fun oJ7 h hJ7 => ?_
 refine AW.join (S := (List Int)) (fun v6_0 => [(1, .ptr 0 6 0 0), (2, .ptr 1 6 0 0), (3, .ptr 2 6 0 0)]) (fun v6_0 => [some ⟨6, [[.d (.val (.int .i64 p0.op)), .d (.val (.string p0.name)), .d (.val (.bool p0.num.neg)), .d (slD u32V p0.num.num), .d (slD u32V p0.num.den), .d (slD NodeA.enc p0.kids)]]⟩, some ⟨6, [[.d (.val (.int .i64 (0 : Int))), .d (.val (.string (⟨#[]⟩ : ByteArray))), .d (.val (.bool false)), .d (.val (.slice none 0 0)), .d (.val (.slice none 0 0)), .d (.val (.slice none 0 0))]]⟩, some ⟨6, [[.d (.val (.int .i64 p0.op)), .d (.val (.string p0.name)), .d (.val (.bool p0.num.neg)), .d (slD u32V v1_0), .d (slD u32V v6_0), .d (.val (.slice none 0 0))]]⟩]) (fun x => x = oJ7) ?_ ?_
 ·skip
  refine AW.op mixed ?_
  refine AW.kp [0, 1, 2] [1, 2, 3, 31] ?_
  refine AW.ts (decide ((0 : Int) < (p0.num.den.length : Int))) (fun hb8 => ?_) (fun hb8 => ?_)
  ·have h := ifT hb8 h
   refine AW.rg mixed ?_
   apply obindE h; intro l9 hx10 h
   refine appD hx10 rfl (by simp only [go_sem, reduceEqDiff, reduceAdd, reduceSub, reduceMul, reduceLeDiff, reduceLT, Nat.reduceBEq, reduceIte]) ?_
   try simp only [go_sem, reduceEqDiff, reduceAdd, reduceSub, reduceMul, reduceLeDiff, reduceLT, Nat.reduceBEq, reduceIte]
   exact JoinQ.ar l9 [0, 1, 2] (Option.some.inj h)
  have h := ifF hb8 h
  refine AW.sk ?_
  refine JoinQ.mkS [] [0, 1, 2] [] [] [(2, ⟨6, [[.d (.val (.int .i64 p0.op)), .d (.val (.string p0.name)), .d (.val (.bool p0.num.neg)), .d (slD u32V v1_0), .d (slD u32V []), .d (.val (.slice none 0 0))]]⟩)] (Option.some.inj h) (by simp only [go_sem, reduceEqDiff, reduceAdd, reduceSub, reduceMul, reduceLeDiff, reduceLT, Nat.reduceBEq, reduceIte, sealL_cons, sealL_nil]) (by simp only [go_sem, reduceEqDiff, reduceAdd, reduceSub, reduceMul, reduceLeDiff, reduceLT, Nat.reduceBEq, reduceIte, sealH_cons, sealH_nil]; exact ⟨⟨.same _, .same _, .same _, .same _, .nil, .same _, trivial⟩, trivial⟩) (by simp only [go_sem, reduceEqDiff, reduceAdd, reduceSub, reduceMul, reduceLeDiff, reduceLT, Nat.reduceBEq, reduceIte])
 rintro v6_0 rfl
 have h := hJ7
 try dsimp only [Out.fin] at h
 refine nz ?_
 refine AW.one ?_
 refine AW.op mixed ?_
 refine AW.kp [1, 2] [2, 3, 39, 40, 41] ?_
 refine obindE h fun oJ14 h hJ14 => ?_
 refine AW.join (S := (List NodeA)) (fun e12_0 => [(2, .ptr 0 6 0 0), (3, .ptr 1 6 0 0)]) (fun e12_0 => [some ⟨6, [[.d (.val (.int .i64 (0 : Int))), .d (.val (.string (⟨#[]⟩ : ByteArray))), .d (.val (.bool false)), .d (.val (.slice none 0 0)), .d (.val (.slice none 0 0)), .d (.val (.slice none 0 0))]]⟩, some ⟨6, [[.d (.val (.int .i64 p0.op)), .d (.val (.string p0.name)), .d (.val (.bool p0.num.neg)), .d (slD u32V v1_0), .d (slD u32V v6_0), accV 2 6 ((e12_0.map NodeA.enc).map (·.map .d))]]⟩, accO 6 ((e12_0.map NodeA.enc).map (·.map .d))]) (fun x => x = oJ14) ?_ ?_
 ·refine AW.block ?_
  refine AW.iter (S := Int × (List NodeA)) (fun (i11_0, i11_1) => [(2, .ptr 0 6 0 0), (3, .ptr 1 6 0 0), (39, .d (slD NodeA.enc p0.kids)), (40, .d (.val (.int .i64 (p0.kids.length : Int)))), (41, .d (.val (.int .i64 i11_0)))]) (fun (i11_0, i11_1) => [some ⟨6, [[.d (.val (.int .i64 (0 : Int))), .d (.val (.string (⟨#[]⟩ : ByteArray))), .d (.val (.bool false)), .d (.val (.slice none 0 0)), .d (.val (.slice none 0 0)), .d (.val (.slice none 0 0))]]⟩, some ⟨6, [[.d (.val (.int .i64 p0.op)), .d (.val (.string p0.name)), .d (.val (.bool p0.num.neg)), .d (slD u32V v1_0), .d (slD u32V v6_0), accV 2 6 ((i11_1.map NodeA.enc).map (·.map .d))]]⟩, accO 6 ((i11_1.map NodeA.enc).map (·.map .d))]) [0, 1, 1002] h (by simp only [go_sem, reduceEqDiff, reduceAdd, reduceSub, reduceMul, reduceLeDiff, reduceLT, Nat.reduceBEq, reduceIte]) ?_
  rintro again ⟨i11_0, i11_1⟩ h
  try dsimp only at h
  refine AW.op mixed ?_
  refine AW.cu [0, 1, 2] [(2, .ptr 0 6 0 0), (3, .ptr 1 6 0 0), (39, .d (slD NodeA.enc p0.kids)), (40, .d (.val (.int .i64 (p0.kids.length : Int)))), (41, .d (.val (.int .i64 i11_0))), (42, .d (.val (.bool (decide (i11_0 < (p0.kids.length : Int))))))] [some ⟨6, [[.d (.val (.int .i64 (0 : Int))), .d (.val (.string (⟨#[]⟩ : ByteArray))), .d (.val (.bool false)), .d (.val (.slice none 0 0)), .d (.val (.slice none 0 0)), .d (.val (.slice none 0 0))]]⟩, some ⟨6, [[.d (.val (.int .i64 p0.op)), .d (.val (.string p0.name)), .d (.val (.bool p0.num.neg)), .d (slD u32V v1_0), .d (slD u32V v6_0), accV 2 6 ((i11_1.map NodeA.enc).map (·.map .d))]]⟩, accO 6 ((i11_1.map NodeA.enc).map (·.map .d))] ?_
  refine AW.one ?_
  refine AW.ts (decide (i11_0 < (p0.kids.length : Int))) (fun hb15 => ?_) (fun hb15 => ?_)
  ·have h := ifT hb15 h
   refine AW.sk ?_
   refine AW.cu [0, 1, 2] [(2, .ptr 0 6 0 0), (3, .ptr 1 6 0 0), (39, .d (slD NodeA.enc p0.kids)), (40, .d (.val (.int .i64 (p0.kids.length : Int)))), (41, .d (.val (.int .i64 i11_0)))] [some ⟨6, [[.d (.val (.int .i64 (0 : Int))), .d (.val (.string (⟨#[]⟩ : ByteArray))), .d (.val (.bool false)), .d (.val (.slice none 0 0)), .d (.val (.slice none 0 0)), .d (.val (.slice none 0 0))]]⟩, some ⟨6, [[.d (.val (.int .i64 p0.op)), .d (.val (.string p0.name)), .d (.val (.bool p0.num.neg)), .d (slD u32V v1_0), .d (slD u32V v6_0), accV 2 6 ((i11_1.map NodeA.enc).map (·.map .d))]]⟩, accO 6 ((i11_1.map NodeA.enc).map (·.map .d))] ?_
   refine AW.one ?_
   refine AW.block ?_
   refine AW.one ?_
   refine AW.reg mixed (by kernel_rfl) ?_
   apply obindE h; intro x16 hx17 h
   try simp only [go_sem, reduceEqDiff, reduceAdd, reduceSub, reduceMul, reduceLeDiff, reduceLT, Nat.reduceBEq, reduceIte, (idx_some hx17).1, (idx_some hx17).2]
   refine AW.cut [0, 1, 2, 5] [(2, .ptr 0 6 0 0), (3, .ptr 1 6 0 0), (5, .ptr 3 6 0 0), (39, .d (slD NodeA.enc p0.kids)), (40, .d (.val (.int .i64 (p0.kids.length : Int)))), (41, .d (.val (.int .i64 i11_0)))] [some ⟨6, [[.d (.val (.int .i64 (0 : Int))), .d (.val (.string (⟨#[]⟩ : ByteArray))), .d (.val (.bool false)), .d (.val (.slice none 0 0)), .d (.val (.slice none 0 0)), .d (.val (.slice none 0 0))]]⟩, some ⟨6, [[.d (.val (.int .i64 p0.op)), .d (.val (.string p0.name)), .d (.val (.bool p0.num.neg)), .d (slD u32V v1_0), .d (slD u32V v6_0), accV 2 6 ((i11_1.map NodeA.enc).map (·.map .d))]]⟩, accO 6 ((i11_1.map NodeA.enc).map (·.map .d)), some ⟨6, [[.d (.val (.int .i64 x16.op)), .d (.val (.string x16.name)), .d (.val (.bool x16.num.neg)), .d (slD u32V x16.num.num), .d (slD u32V x16.num.den), .d (slD NodeA.enc x16.kids)]]⟩] (by simp only [go_sem, reduceEqDiff, reduceAdd, reduceSub, reduceMul, reduceLeDiff, reduceLT, Nat.reduceBEq, reduceIte, (idx_some hx17).1, (idx_some hx17).2]) ?_
   refine AW.op mixed ?_
   apply obindE h; intro r18 hx19 h
   have hc := nx (hself55 _ _ hx19)
   refine callP hc ?_
   refine AW.cu [0, 1, 2, 6] [(2, .ptr 0 6 0 0), (3, .ptr 1 6 0 0), (6, .ptr 3 6 0 0), (39, .d (slD NodeA.enc p0.kids)), (40, .d (.val (.int .i64 (p0.kids.length : Int)))), (41, .d (.val (.int .i64 i11_0)))] [some ⟨6, [[.d (.val (.int .i64 (0 : Int))), .d (.val (.string (⟨#[]⟩ : ByteArray))), .d (.val (.bool false)), .d (.val (.slice none 0 0)), .d (.val (.slice none 0 0)), .d (.val (.slice none 0 0))]]⟩, some ⟨6, [[.d (.val (.int .i64 p0.op)), .d (.val (.string p0.name)), .d (.val (.bool p0.num.neg)), .d (slD u32V v1_0), .d (slD u32V v6_0), accV 2 6 ((i11_1.map NodeA.enc).map (·.map .d))]]⟩, accO 6 ((i11_1.map NodeA.enc).map (·.map .d)), some ⟨6, [[.d (.val (.int .i64 r18.op)), .d (.val (.string r18.name)), .d (.val (.bool r18.num.neg)), .d (slD u32V r18.num.num), .d (slD u32V r18.num.den), .d (slD NodeA.enc r18.kids)]]⟩] ?_
   refine AW.rg mixed ?_
   apply obindE h; intro l20 hx21 h
   refine appG hx21 rfl (by simp only [go_sem, reduceEqDiff, reduceAdd, reduceSub, reduceMul, reduceLeDiff, reduceLT, Nat.reduceBEq, reduceIte]) (by simp only [go_sem, reduceEqDiff, reduceAdd, reduceSub, reduceMul, reduceLeDiff, reduceLT, Nat.reduceBEq, reduceIte]) (by simp only [go_sem, reduceEqDiff, reduceAdd, reduceSub, reduceMul, reduceLeDiff, reduceLT, Nat.reduceBEq, reduceIte]) (by simp) ?_
   try simp only [go_sem, reduceEqDiff, reduceAdd, reduceSub, reduceMul, reduceLeDiff, reduceLT, Nat.reduceBEq, reduceIte]
   refine AW.cu [0, 1, 8] [(2, .ptr 0 6 0 0), (3, .ptr 1 6 0 0), (39, .d (slD NodeA.enc p0.kids)), (40, .d (.val (.int .i64 (p0.kids.length : Int)))), (41, .d (.val (.int .i64 i11_0)))] [some ⟨6, [[.d (.val (.int .i64 (0 : Int))), .d (.val (.string (⟨#[]⟩ : ByteArray))), .d (.val (.bool false)), .d (.val (.slice none 0 0)), .d (.val (.slice none 0 0)), .d (.val (.slice none 0 0))]]⟩, some ⟨6, [[.d (.val (.int .i64 p0.op)), .d (.val (.string p0.name)), .d (.val (.bool p0.num.neg)), .d (slD u32V v1_0), .d (slD u32V v6_0), accV 2 6 ((l20.map NodeA.enc).map (·.map .d))]]⟩, accO 6 ((l20.map NodeA.enc).map (·.map .d))] ?_
   refine AW.rg mixed ?_
   exact NextQ.ar (IntKind.wrap .i64 (i11_0 + (1 : Int)), l20) [0, 1, 2] h
  have h := ifF hb15 h
  refine AW.ex ?_
  exact JoinQ.ar i11_1 [0, 1, 2] (Option.some.inj h)
 rintro e12_0 rfl
 have h := hJ14
 try dsimp only [Out.fin] at h
 refine nz ?_
 refine AW.cu [0, 1, 2] [(2, .ptr 0 6 0 0), (3, .ptr 1 6 0 0)] [some ⟨6, [[.d (.val (.int .i64 (0 : Int))), .d (.val (.string (⟨#[]⟩ : ByteArray))), .d (.val (.bool false)), .d (.val (.slice none 0 0)), .d (.val (.slice none 0 0)), .d (.val (.slice none 0 0))]]⟩, some ⟨6, [[.d (.val (.int .i64 p0.op)), .d (.val (.string p0.name)), .d (.val (.bool p0.num.neg)), .d (slD u32V v1_0), .d (slD u32V v6_0), accV 2 6 ((e12_0.map NodeA.enc).map (·.map .d))]]⟩, accO 6 ((e12_0.map NodeA.enc).map (·.map .d))] ?_
 refine AW.op mixed ?_
 refine AW.ret ?_
 obtain rfl := Option.some.inj h
 refine nz ?_
 refine OwnRes.mk 2 (nz ?_) (by simp only [go_sem, reduceEqDiff, reduceAdd, reduceSub, reduceMul, reduceLeDiff, reduceLT, Nat.reduceBEq, reduceIte])
 exact .same _
theorem tree_Copy_step (K : Nat) (self55 : NodeA → Option NodeA) (hself55 : ∀ (q : NodeA) (r : NodeA), self55 q = some r → Cn Tryz.prog 55 [aggV q.enc] (aggV r.enc)) (p0 : NodeA) (r : NodeA) (h : tree_Copy_body K self55 p0 = some r) : Cn Tryz.prog 55 [aggV p0.enc] (aggV r.enc) := by
 refine Cn.ofCo (tree_Copy_stepO K _ hself55 p0 r h) (nz ?_) (by simp only [go_sem, reduceEqDiff, reduceAdd, reduceSub, reduceMul, reduceLeDiff, reduceLT, Nat.reduceBEq, reduceIte])
 exact .aggL ⟨.same _, .same _, .same _, .same _, .same _, sealAcc (by simp only [go_sem, reduceEqDiff, reduceAdd, reduceSub, reduceMul, reduceLeDiff, reduceLT, Nat.reduceBEq, reduceIte]), trivial⟩
def tree_Copy (K : Nat) (p0 : NodeA) : Option NodeA := iter K (fun self q => tree_Copy_body K self q) p0
theorem key_tree_Copy {K : Nat} (k : Nat) : (∀ (q : NodeA) (r : NodeA), iter k (fun self q => tree_Copy_body K self q) q = some r → Cn Tryz.prog 55 [aggV q.enc] (aggV r.enc)) := by
 induction k with
 | zero => exact fun q r h => by cases h
 | succ k ih => exact fun q r h => tree_Copy_step K _ ih q r h
theorem tree_Copy_own {K : Nat} {p0 : NodeA} {r : NodeA} (h : tree_Copy K p0 = some r) : Co Tryz.prog 55 [aggV p0.enc] (.agg [.d (.val (.int .i64 r.op)), .d (.val (.string r.name)), .d (.val (.bool r.num.neg)), .d (slD u32V r.num.num), .d (slD u32V r.num.den), accV 0 6 ((r.kids.map NodeA.enc).map (·.map .d))]) (accO 6 ((r.kids.map NodeA.enc).map (·.map .d))) := by
 unfold tree_Copy at h
 have key : ∀ k, iter k (fun self q => tree_Copy_body K self q) p0 = some r → Co Tryz.prog 55 [aggV p0.enc] (.agg [.d (.val (.int .i64 r.op)), .d (.val (.string r.name)), .d (.val (.bool r.num.neg)), .d (slD u32V r.num.num), .d (slD u32V r.num.den), accV 0 6 ((r.kids.map NodeA.enc).map (·.map .d))]) (accO 6 ((r.kids.map NodeA.enc).map (·.map .d))) := fun k h => by
  cases k with
  | zero => cases h
  | succ k => exact tree_Copy_stepO K _ (key_tree_Copy k) p0 r h
 exact key K h
theorem tree_Copy_ok {K : Nat} {p0 : NodeA} {r : NodeA} (h : tree_Copy K p0 = some r) : Cn Tryz.prog 55 [aggV p0.enc] (aggV r.enc) := (key_tree_Copy K) p0 r h
/-! ### isochrone/rename.uniform$2 -/
def rename_uniform_2_body (K : Nat) (self54 : (NodeA × ByteArray × ByteArray) → Option NodeA) (p0 : NodeA) (p1 : ByteArray) (p2 : ByteArray) : Option NodeA := (tree_Copy K (NodeA.mk p0.op p0.name p0.num [])).bind fun r1 =>
 ((
  (rename_variable K p0.op).bind fun r5 =>
  if r5 then
   (rename_uniform_1 K p0.name p1 p2).bind fun r8 =>
   some r8
  else
   some r1.name) : Option ByteArray).bind (fun v3_0 =>
 ((iter (S := Int × (List NodeA)) (R := (List NodeA)) K (fun again (i10_0, i10_1) =>
  if (decide (i10_0 < (p0.kids.length : Int))) then
   (idx p0.kids i10_0).bind fun x15 =>
   (self54 (x15, p1, p2)).bind fun r17 =>
   (appO 104 i10_1 [r17]).bind fun l19 =>
   again (IntKind.wrap .i64 (i10_0 + (1 : Int)), l19)
  else
   some i10_1) ((0 : Int), r1.kids)) : Option (List NodeA)).bind (fun e11_0 =>
 some (NodeA.mk r1.op v3_0 r1.num e11_0)))
set_option maxHeartbeats 4000000 in
theorem rename_uniform_2_step (K : Nat) (self54 : (NodeA × ByteArray × ByteArray) → Option NodeA) (hself54 : ∀ (q : NodeA × ByteArray × ByteArray) (r : NodeA), self54 q = some r → Cl Tryz.prog 54 [aggV q.1.enc, .ptr 0 1 0 0, .ptr 3 1 0 0] [⟨1, [[.fn 53 [.ptr 1 1 0 0, .ptr 2 1 0 0]]]⟩, ⟨1, [[.d (.val (.string q.2.1))]]⟩, ⟨1, [[.d (.val (.string q.2.2))]]⟩, ⟨1, [[.fn 54 [.ptr 0 1 0 0, .ptr 3 1 0 0]]]⟩] (aggV r.enc) [⟨1, [[.fn 53 [.ptr 1 1 0 0, .ptr 2 1 0 0]]]⟩, ⟨1, [[.d (.val (.string q.2.1))]]⟩, ⟨1, [[.d (.val (.string q.2.2))]]⟩, ⟨1, [[.fn 54 [.ptr 0 1 0 0, .ptr 3 1 0 0]]]⟩]) (p0 : NodeA) (p1 : ByteArray) (p2 : ByteArray) (r : NodeA) (h : rename_uniform_2_body K self54 p0 p1 p2 = some r) : Cl Tryz.prog 54 [aggV p0.enc, .ptr 0 1 0 0, .ptr 3 1 0 0] [⟨1, [[.fn 53 [.ptr 1 1 0 0, .ptr 2 1 0 0]]]⟩, ⟨1, [[.d (.val (.string p1))]]⟩, ⟨1, [[.d (.val (.string p2))]]⟩, ⟨1, [[.fn 54 [.ptr 0 1 0 0, .ptr 3 1 0 0]]]⟩] (aggV r.enc) [⟨1, [[.fn 53 [.ptr 1 1 0 0, .ptr 2 1 0 0]]]⟩, ⟨1, [[.d (.val (.string p1))]]⟩, ⟨1, [[.d (.val (.string p2))]]⟩, ⟨1, [[.fn 54 [.ptr 0 1 0 0, .ptr 3 1 0 0]]]⟩] := by
 refine Cl.ofA mixed Tryz.func54 rfl Tryz.call54 Tryz.ntmps54 Tryz.results54 (by simp) rfl (by simp only [go_sem, reduceEqDiff, reduceAdd, reduceSub, reduceMul, reduceLeDiff, reduceLT, Nat.reduceBEq, reduceIte, List.length_cons]) (by simp only [go_sem, reduceEqDiff, reduceAdd, reduceSub, reduceMul, reduceLeDiff, reduceLT, Nat.reduceBEq, reduceIte]) (by simp only [go_sem, reduceEqDiff, reduceAdd, reduceSub, reduceMul, reduceLeDiff, reduceLT, Nat.reduceBEq, reduceIte]) (by simp only [go_sem, reduceEqDiff, reduceAdd, reduceSub, reduceMul, reduceLeDiff, reduceLT, Nat.reduceBEq, reduceIte]) fun hfit => ?_
 unfold rename_uniform_2_body at h
 refine AW.kr [0, 1, 2, 3] [0, 1, 2] ?_
 refine AW.kr [0, 1, 2, 3, 4, 5] [1, 2, 3, 4] ?_
 apply bE h; intro r1 hx2 h
 have hc := nx (tree_Copy_own (h := hx2))
 refine callK_ownC hc ⟨.aggL ⟨.same _, .same _, .same _, .same _, .same _, .nil, trivial⟩, trivial⟩ (by simp only [go_sem, reduceEqDiff, reduceAdd, reduceSub, reduceMul, reduceLeDiff, reduceLT, Nat.reduceBEq, reduceIte]) ?_
 refine ns ?_
 refine AW.ks [0, 1, 2, 3, 4, 5, 14, 13] [1, 2, 3, 4, 5] ?_
 refine AW.jn h (fun v3_0 => [(2, .ptr 3 1 0 0), (3, .ptr 4 6 0 0), (4, .ptr 5 6 0 0), (5, .ptr 6 6 0 0)]) (fun v3_0 => [vE1 (.fn 53 [.ptr 1 1 0 0, .ptr 2 1 0 0]), vE1 (vS p1), vE1 (vS p2), vE1 (.fn 54 [.ptr 0 1 0 0, .ptr 3 1 0 0]), vE p0.enc, some ⟨6, [[vI (0 : Int), vS (⟨#[]⟩ : ByteArray), vB false, .d (.val (.slice none 0 0)), .d (.val (.slice none 0 0)), .d (.val (.slice none 0 0))]]⟩, some ⟨6, [[vI r1.op, vS v3_0, vB r1.num.neg, vL u32V r1.num.num, vL u32V r1.num.den, accV 7 6 ((r1.kids.map NodeA.enc).map (·.map .d))]]⟩, accO 6 ((r1.kids.map NodeA.enc).map (·.map .d))]) (fun oJ4 h => ?_) fun v3_0 h => ?_
 ·refine AW.ro ?_
  refine cm h rename_variable_ok fun r5 hx6 h => ?_
  refine AW.ks [0, 1, 2, 3, 4, 5, 6, 7] [1, 2, 3, 4, 5, 19] ?_
  refine AW.tk h (fun hb7 h => ?_) fun hb7 h => ?_
  ·refine AW.rp ?_
   refine cl h rename_uniform_1_ok (fun r8 hx9 h => ?_) (hs := by exact ⟨.same _, sealPtr (by simp only [go_sem, reduceEqDiff, reduceAdd, reduceSub, reduceMul, reduceLeDiff, reduceLT, Nat.reduceBEq, reduceIte]), sealPtr (by simp only [go_sem, reduceEqDiff, reduceAdd, reduceSub, reduceMul, reduceLeDiff, reduceLT, Nat.reduceBEq, reduceIte]), trivial⟩)
   exact ja [0, 1, 2, 3, 4, 5, 6, 7] h
  exact ja [0, 1, 2, 3, 4, 5, 6, 7] h
 refine AW.one ?_
 refine AW.ro ?_
 refine AW.ks [0, 1, 2, 3, 5, 6, 7] [2, 4, 5, 26, 27, 28] ?_
 refine AW.lm h (fun e11_0 => [(4, .ptr 4 6 0 0), (5, .ptr 5 6 0 0)]) (fun e11_0 => [vE1 (.fn 53 [.ptr 1 1 0 0, .ptr 2 1 0 0]), vE1 (vS p1), vE1 (vS p2), vE1 (.fn 54 [.ptr 0 1 0 0, .ptr 3 1 0 0]), some ⟨6, [[vI (0 : Int), vS (⟨#[]⟩ : ByteArray), vB false, .d (.val (.slice none 0 0)), .d (.val (.slice none 0 0)), .d (.val (.slice none 0 0))]]⟩, some ⟨6, [[vI r1.op, vS v3_0, vB r1.num.neg, vL u32V r1.num.num, vL u32V r1.num.den, accV 6 6 ((e11_0.map NodeA.enc).map (·.map .d))]]⟩, accO 6 ((e11_0.map NodeA.enc).map (·.map .d))]) (fun (i10_0, i10_1) => [(2, .ptr 3 1 0 0), (4, .ptr 4 6 0 0), (5, .ptr 5 6 0 0), (26, vL NodeA.enc p0.kids), (27, vI (p0.kids.length : Int)), (28, vI i10_0)]) (fun (i10_0, i10_1) => [vE1 (.fn 53 [.ptr 1 1 0 0, .ptr 2 1 0 0]), vE1 (vS p1), vE1 (vS p2), vE1 (.fn 54 [.ptr 0 1 0 0, .ptr 3 1 0 0]), some ⟨6, [[vI (0 : Int), vS (⟨#[]⟩ : ByteArray), vB false, .d (.val (.slice none 0 0)), .d (.val (.slice none 0 0)), .d (.val (.slice none 0 0))]]⟩, some ⟨6, [[vI r1.op, vS v3_0, vB r1.num.neg, vL u32V r1.num.num, vL u32V r1.num.den, accV 6 6 ((i10_1.map NodeA.enc).map (·.map .d))]]⟩, accO 6 ((i10_1.map NodeA.enc).map (·.map .d))]) [0, 1, 2, 3, 4, 5, 6] (fun oJ13 again ⟨i10_0, i10_1⟩ h => ?_) fun e11_0 h => ?_
 ·try dsimp only at h
  refine AW.ro ?_
  refine AW.ks [0, 1, 2, 3, 4, 5, 6] [2, 4, 5, 26, 27, 28, 29] ?_
  refine AW.one ?_
  refine AW.tt h (fun hb14 h => ?_) fun hb14 h => ?_
  ·refine AW.sk ?_
   refine AW.ks [0, 1, 2, 3, 4, 5, 6] [2, 4, 5, 26, 27, 28] ?_
   refine AW.one ?_
   refine AW.block ?_
   refine AW.ro ?_
   refine bx h fun x15 h0 h1 h => ?_
   refine AW.kr [0, 1, 2, 3, 4, 5, 6, 9] [2, 4, 5, 7, 26, 27, 28] ?_
   apply bE h; intro r17 hx18 h
   have hc := nx (hself54 _ _ hx18)
   refine callK_loc [0, 1, 2, 3] hc (by simp only [go_sem, reduceEqDiff, reduceAdd, reduceSub, reduceMul, reduceLeDiff, reduceLT, Nat.reduceBEq, reduceIte]) (by simp) (by simp only [go_sem, reduceEqDiff, reduceAdd, reduceSub, reduceMul, reduceLeDiff, reduceLT, Nat.reduceBEq, reduceIte]) ?_
   refine ns ?_
   refine AW.ks [0, 1, 2, 3, 4, 5, 6, 11] [2, 4, 5, 8, 26, 27, 28] ?_
   refine AW.rp ?_
   refine ag (f := NodeA.enc) h fun l19 hx20 h => ?_
   refine AW.ks [0, 1, 2, 3, 4, 5, 12] [2, 4, 5, 26, 27, 28] ?_
   refine AW.rp ?_
   exact na [0, 1, 2, 3, 4, 5, 6] h
  refine AW.ex ?_
  exact ja [0, 1, 2, 3, 4, 5, 6] h
 refine AW.kr [0, 1, 2, 3, 4, 5, 6] [4, 5] ?_
 refine AW.ret ?_
 cases h; refine nz ?_; exact ⟨.aggL ⟨.same _, .same _, .same _, .same _, .same _, sealAcc (by simp only [go_sem, reduceEqDiff, reduceAdd, reduceSub, reduceMul, reduceLeDiff, reduceLT, Nat.reduceBEq, reduceIte]), trivial⟩, ⟨⟨.same _, trivial⟩, trivial⟩, ⟨⟨.same _, trivial⟩, trivial⟩, ⟨⟨.same _, trivial⟩, trivial⟩, ⟨⟨.same _, trivial⟩, trivial⟩⟩
def rename_uniform_2 (K : Nat) (p0 : NodeA) (p1 : ByteArray) (p2 : ByteArray) : Option NodeA := iter K (fun self q => rename_uniform_2_body K self q.1 q.2.1 q.2.2) (p0, p1, p2)
theorem key_rename_uniform_2 {K : Nat} (k : Nat) : (∀ (q : NodeA × ByteArray × ByteArray) (r : NodeA), iter k (fun self q => rename_uniform_2_body K self q.1 q.2.1 q.2.2) q = some r → Cl Tryz.prog 54 [aggV q.1.enc, .ptr 0 1 0 0, .ptr 3 1 0 0] [⟨1, [[.fn 53 [.ptr 1 1 0 0, .ptr 2 1 0 0]]]⟩, ⟨1, [[.d (.val (.string q.2.1))]]⟩, ⟨1, [[.d (.val (.string q.2.2))]]⟩, ⟨1, [[.fn 54 [.ptr 0 1 0 0, .ptr 3 1 0 0]]]⟩] (aggV r.enc) [⟨1, [[.fn 53 [.ptr 1 1 0 0, .ptr 2 1 0 0]]]⟩, ⟨1, [[.d (.val (.string q.2.1))]]⟩, ⟨1, [[.d (.val (.string q.2.2))]]⟩, ⟨1, [[.fn 54 [.ptr 0 1 0 0, .ptr 3 1 0 0]]]⟩]) := by
 induction k with
 | zero => exact fun q r h => by cases h
 | succ k ih => exact fun q r h => rename_uniform_2_step K _ ih q.1 q.2.1 q.2.2 r h
theorem rename_uniform_2_ok {K : Nat} {p0 : NodeA} {p1 : ByteArray} {p2 : ByteArray} {r : NodeA} (h : rename_uniform_2 K p0 p1 p2 = some r) : Cl Tryz.prog 54 [aggV p0.enc, .ptr 0 1 0 0, .ptr 3 1 0 0] [⟨1, [[.fn 53 [.ptr 1 1 0 0, .ptr 2 1 0 0]]]⟩, ⟨1, [[.d (.val (.string p1))]]⟩, ⟨1, [[.d (.val (.string p2))]]⟩, ⟨1, [[.fn 54 [.ptr 0 1 0 0, .ptr 3 1 0 0]]]⟩] (aggV r.enc) [⟨1, [[.fn 53 [.ptr 1 1 0 0, .ptr 2 1 0 0]]]⟩, ⟨1, [[.d (.val (.string p1))]]⟩, ⟨1, [[.d (.val (.string p2))]]⟩, ⟨1, [[.fn 54 [.ptr 0 1 0 0, .ptr 3 1 0 0]]]⟩] := (key_rename_uniform_2 K) (p0, p1, p2) r h
/-! ### isochrone/rename.uniform -/
def rename_uniform (K : Nat) (p0 : NodeA) (p1 : ByteArray) (p2 : ByteArray) : Option NodeA := (rename_uniform_2 K p0 p1 p2).bind fun r1 =>
 some r1
set_option maxHeartbeats 4000000 in
theorem rename_uniform_ok {K : Nat} {p0 : NodeA} {p1 : ByteArray} {p2 : ByteArray} {r : NodeA} (h : rename_uniform K p0 p1 p2 = some r) : Cn Tryz.prog 21 [aggV p0.enc, .d (.val (.string p1)), .d (.val (.string p2))] (aggV r.enc) := by
 refine Cn.oz Tryz.func21 Tryz.call21 Tryz.ntmps21 Tryz.results21 fun hfit => ?_
 unfold rename_uniform at h
 refine AW.kr [] [0, 1, 2] ?_
 refine AW.kr [0, 1, 2, 3] [3, 4, 5, 6] ?_
 refine AW.kr [0, 3, 5, 1, 2] [3, 6, 7] ?_
 refine AW.kr [0, 1, 2, 3, 4, 5] [3, 6, 7, 8] ?_
 refine AW.kr [0, 1, 5, 2, 3, 4] [3, 6, 8] ?_
 apply bE h; intro r1 hx2 h
 have hc := nx (rename_uniform_2_ok (h := hx2))
 refine callK_loc [3, 4, 5, 2] hc (by simp only [go_sem, reduceEqDiff, reduceAdd, reduceSub, reduceMul, reduceLeDiff, reduceLT, Nat.reduceBEq, reduceIte]) (by simp) (by simp only [go_sem, reduceEqDiff, reduceAdd, reduceSub, reduceMul, reduceLeDiff, reduceLT, Nat.reduceBEq, reduceIte]) ?_
 refine ns ?_
 refine AW.ret ?_
 cases h; refine nz ?_; exact .same _
structure Api_NamesA where
 all : Bool
 list : List ByteArray
def Api_NamesA.enc (x : Api_NamesA) : List D := [.val (.bool x.all), slD strV x.list]
theorem Api_NamesA.enc_eta (x : Api_NamesA) : x.enc = [.val (.bool x.all), slD strV x.list] := rfl
attribute [go_sem] Api_NamesA.enc_eta
/-! ### isochrone/static.one -/
def static_one (K : Nat) (p0 : ByteArray) : Option Api_NamesA := some (Api_NamesA.mk false [p0])
set_option maxHeartbeats 4000000 in
theorem static_one_ok {K : Nat} {p0 : ByteArray} {r : Api_NamesA} (h : static_one K p0 = some r) : Cn Tryz.prog 74 [.d (.val (.string p0))] (aggV r.enc) := by
 refine Cn.oz Tryz.func74 Tryz.call74 Tryz.ntmps74 Tryz.results74 fun hfit => ?_
 unfold static_one at h
 refine AW.kr [] [0] ?_
 refine AW.kr [0] [0, 2] ?_
 refine AW.ret ?_
 cases h; refine nz ?_; exact .same _
/-! ### isochrone/static.everything -/
def static_everything (K : Nat)  : Option Api_NamesA := some (Api_NamesA.mk true [])
set_option maxHeartbeats 4000000 in
theorem static_everything_ok {K : Nat}  {r : Api_NamesA} (h : static_everything K  = some r) : Cn Tryz.prog 75 [] (aggV r.enc) := by
 refine Cn.oz Tryz.func75 Tryz.call75 Tryz.ntmps75 Tryz.results75 fun hfit => ?_
 unfold static_everything at h
 refine AW.kr [] [] ?_
 refine AW.kr [0] [0] ?_
 refine AW.ret ?_
 cases h; refine nz ?_; exact .aggL ⟨.same _, .nil, trivial⟩
/-! ### isochrone/static.mix -/
def static_mix (K : Nat) (p0 : List ByteArray) (p1 : List ByteArray) (p2 : Bool) (p3 : Bool) (p4 : Bool) : Option (List ByteArray) := ((iter (S := Int × Int × (List ByteArray)) (R := (List ByteArray)) K (fun again (i1_0, i1_1, i1_2) =>
  ((
   ((
    if (decide (i1_0 < (p0.length : Int))) then
     some true
    else
     some (decide (i1_1 < (p1.length : Int)))) : Option Bool).bind (fun v7_0 =>
   if v7_0 then
    some (.go ())
   else
    outM (
     some i1_2))) : Option (Out Unit _)).bind (Out.fin fun _ =>
  ((
   if (i1_1 == (p1.length : Int)) then
    some true
   else
    if (decide (i1_0 < (p0.length : Int))) then
     (idx p0 i1_0).bind fun x15 =>
     (idx p1 i1_1).bind fun x17 =>
     some (Op.bytesLess x15.toList x17.toList)
    else
     some false) : Option Bool).bind (fun v11_0 =>
  if v11_0 then
   ((
    if p2 then
     (idx p0 i1_0).bind fun x23 =>
     (appO 16 i1_2 [x23]).bind fun l25 =>
     some l25
    else
     some i1_2) : Option (List ByteArray)).bind (fun v20_0 =>
   again (IntKind.wrap .i64 (i1_0 + (1 : Int)), i1_1, v20_0))
  else
   ((
    if (i1_0 == (p0.length : Int)) then
     some true
    else
     (idx p1 i1_1).bind fun x30 =>
     (idx p0 i1_0).bind fun x32 =>
     some (Op.bytesLess x30.toList x32.toList)) : Option Bool).bind (fun v27_0 =>
   if v27_0 then
    ((
     if p4 then
      (idx p1 i1_1).bind fun x38 =>
      (appO 16 i1_2 [x38]).bind fun l40 =>
      some l40
     else
      some i1_2) : Option (List ByteArray)).bind (fun v35_0 =>
    again (i1_0, IntKind.wrap .i64 (i1_1 + (1 : Int)), v35_0))
   else
    ((
     if p3 then
      (idx p0 i1_0).bind fun x45 =>
      (appO 16 i1_2 [x45]).bind fun l47 =>
      some l47
     else
      some i1_2) : Option (List ByteArray)).bind (fun v42_0 =>
    again (IntKind.wrap .i64 (i1_0 + (1 : Int)), IntKind.wrap .i64 (i1_1 + (1 : Int)), v42_0)))))) ((0 : Int), (0 : Int), [])) : Option (List ByteArray)).bind (fun e2_0 =>
 some e2_0)
set_option maxHeartbeats 4000000 in
theorem static_mix_ok {K : Nat} {p0 : List ByteArray} {p1 : List ByteArray} {p2 : Bool} {p3 : Bool} {p4 : Bool} {r : (List ByteArray)} (h : static_mix K p0 p1 p2 p3 p4 = some r) : Cn Tryz.prog 108 [.d (slD strV p0), .d (slD strV p1), .d (.val (.bool p2)), .d (.val (.bool p3)), .d (.val (.bool p4))] (.d (slD strV r)) := by
 refine Cn.oz Tryz.func108 Tryz.call108 Tryz.ntmps108 Tryz.results108 fun hfit => ?_
 unfold static_mix at h
 refine AW.kr [] [0, 1, 2, 3, 4] ?_
 refine AW.kr [] [0, 1, 2, 3, 4] ?_
 refine AW.ks [] [0, 1, 2, 3, 4, 11] ?_
 refine AW.one ?_
 refine AW.ro ?_
 refine AW.ks [] [0, 1, 2, 3, 4, 11, 12, 13] ?_
 refine AW.lm h (fun e2_0 => [(11, accV 0 1 ((e2_0.map strV).map (·.map .d)))]) (fun e2_0 => [accO 1 ((e2_0.map strV).map (·.map .d))]) (fun (i1_0, i1_1, i1_2) => [(0, vL strV p0), (1, vL strV p1), (2, vB p2), (3, vB p3), (4, vB p4), (11, accV 0 1 ((i1_2.map strV).map (·.map .d))), (12, vI i1_0), (13, vI i1_1)]) (fun (i1_0, i1_1, i1_2) => [accO 1 ((i1_2.map strV).map (·.map .d))]) [1000] (fun oJ4 again ⟨i1_0, i1_1, i1_2⟩ h => ?_) fun e2_0 h => ?_
 ·try dsimp only at h
  refine AW.jo h (fun _ => [(0, vL strV p0), (1, vL strV p1), (2, vB p2), (3, vB p3), (4, vB p4), (11, accV 0 1 ((i1_2.map strV).map (·.map .d))), (12, vI i1_0), (13, vI i1_1)]) (fun _ => [accO 1 ((i1_2.map strV).map (·.map .d))]) (fun oJ6 h hJ6 => ?_) fun ⟨⟩ h => ?_
  ·refine AW.jn h (fun v7_0 => [(0, vL strV p0), (1, vL strV p1), (2, vB p2), (3, vB p3), (4, vB p4), (11, accV 0 1 ((i1_2.map strV).map (·.map .d))), (12, vI i1_0), (13, vI i1_1), (23, vB v7_0)]) (fun v7_0 => [accO 1 ((i1_2.map strV).map (·.map .d))]) (fun oJ8 h => ?_) fun v7_0 h => ?_
   ·refine AW.rp ?_
    refine sK h (fun hb9 h => ?_) fun hb9 h => ?_
    ·exact ja [0] h
    exact ja [0] h
   refine AW.tt h (fun hb10 h => ?_) fun hb10 h => ?_
   ·refine AW.sk ?_
    exact jo [0] h
   refine AW.ex ?_
   have h := up h hJ6
   exact ja [0] h
  refine AW.block ?_
  refine AW.block ?_
  refine AW.jn h (fun v11_0 => [(0, vL strV p0), (1, vL strV p1), (2, vB p2), (3, vB p3), (4, vB p4), (11, accV 0 1 ((i1_2.map strV).map (·.map .d))), (12, vI i1_0), (13, vI i1_1), (36, vB v11_0)]) (fun v11_0 => [accO 1 ((i1_2.map strV).map (·.map .d))]) (fun oJ12 h => ?_) fun v11_0 h => ?_
  ·refine AW.rp ?_
   refine sK h (fun hb13 h => ?_) fun hb13 h => ?_
   ·exact ja [0] h
   refine sK h (fun hb14 h => ?_) fun hb14 h => ?_
   ·refine bx h fun x15 h0 h1 h => ?_
    refine bx h fun x17 h0 h1 h => ?_
    exact ja [0] h
   exact ja [0] h
  refine AW.tt h (fun hb19 h => ?_) fun hb19 h => ?_
  ·refine AW.jn h (fun v20_0 => [(0, vL strV p0), (1, vL strV p1), (2, vB p2), (3, vB p3), (4, vB p4), (11, accV 0 1 ((v20_0.map strV).map (·.map .d))), (12, vI i1_0), (13, vI i1_1)]) (fun v20_0 => [accO 1 ((v20_0.map strV).map (·.map .d))]) (fun oJ21 h => ?_) fun v20_0 h => ?_
   ·refine AW.ro ?_
    refine AW.ks [0] [0, 1, 2, 3, 4, 11, 12, 13, 58] ?_
    refine AW.tk h (fun hb22 h => ?_) fun hb22 h => ?_
    ·refine AW.rp ?_
     refine bx h fun x23 h0 h1 h => ?_
     refine ag (f := strV) h fun l25 hx26 h => ?_
     exact ja [7] h
    exact ja [0] h
   refine AW.rp ?_
   exact na [0] h
  refine AW.jn h (fun v27_0 => [(0, vL strV p0), (1, vL strV p1), (2, vB p2), (3, vB p3), (4, vB p4), (11, accV 0 1 ((i1_2.map strV).map (·.map .d))), (12, vI i1_0), (13, vI i1_1), (68, vB v27_0)]) (fun v27_0 => [accO 1 ((i1_2.map strV).map (·.map .d))]) (fun oJ28 h => ?_) fun v27_0 h => ?_
  ·refine AW.rp ?_
   refine sK h (fun hb29 h => ?_) fun hb29 h => ?_
   ·exact ja [0] h
   refine bx h fun x30 h0 h1 h => ?_
   refine bx h fun x32 h0 h1 h => ?_
   exact ja [0] h
  refine AW.tt h (fun hb34 h => ?_) fun hb34 h => ?_
  ·refine AW.jn h (fun v35_0 => [(0, vL strV p0), (1, vL strV p1), (2, vB p2), (3, vB p3), (4, vB p4), (11, accV 0 1 ((v35_0.map strV).map (·.map .d))), (12, vI i1_0), (13, vI i1_1)]) (fun v35_0 => [accO 1 ((v35_0.map strV).map (·.map .d))]) (fun oJ36 h => ?_) fun v35_0 h => ?_
   ·refine AW.ro ?_
    refine AW.ks [0] [0, 1, 2, 3, 4, 11, 12, 13, 84] ?_
    refine AW.tk h (fun hb37 h => ?_) fun hb37 h => ?_
    ·refine AW.rp ?_
     refine bx h fun x38 h0 h1 h => ?_
     refine ag (f := strV) h fun l40 hx41 h => ?_
     exact ja [7] h
    exact ja [0] h
   refine AW.rp ?_
   exact na [0] h
  refine AW.jn h (fun v42_0 => [(0, vL strV p0), (1, vL strV p1), (2, vB p2), (3, vB p3), (4, vB p4), (11, accV 0 1 ((v42_0.map strV).map (·.map .d))), (12, vI i1_0), (13, vI i1_1)]) (fun v42_0 => [accO 1 ((v42_0.map strV).map (·.map .d))]) (fun oJ43 h => ?_) fun v42_0 h => ?_
  ·refine AW.ro ?_
   refine AW.ks [0] [0, 1, 2, 3, 4, 11, 12, 13, 24] ?_
   refine AW.tk h (fun hb44 h => ?_) fun hb44 h => ?_
   ·refine AW.rp ?_
    refine bx h fun x45 h0 h1 h => ?_
    refine ag (f := strV) h fun l47 hx48 h => ?_
    exact ja [7] h
   exact ja [0] h
  refine AW.ro ?_
  refine AW.ks [0] [0, 1, 2, 3, 4, 11, 12, 13] ?_
  refine AW.rp ?_
  exact na [0] h
 refine AW.kr [0] [11] ?_
 refine AW.ret ?_
 cases h; refine nz ?_; exact sealAcc (by simp only [go_sem, reduceEqDiff, reduceAdd, reduceSub, reduceMul, reduceLeDiff, reduceLT, Nat.reduceBEq, reduceIte])
/-! ### isochrone/static.union -/
def static_union (K : Nat) (p0 : Api_NamesA) (p1 : Api_NamesA) : Option Api_NamesA := ((
  ((
   if p0.all then
    some p1.all
   else
    some false) : Option Bool).bind (fun v3_0 =>
  if v3_0 then
   (static_mix K p0.list p1.list false true false).bind fun r7 =>
   outM (
    some (Api_NamesA.mk true r7))
  else
   if p0.all then
    (static_mix K p0.list p1.list true false false).bind fun r10 =>
    outM (
     some (Api_NamesA.mk true r10))
   else
    if p1.all then
     (static_mix K p0.list p1.list false false true).bind fun r13 =>
     outM (
      some (Api_NamesA.mk true r13))
    else
     some (.go ()))) : Option (Out Unit _)).bind (Out.fin fun _ =>
 (static_mix K p0.list p1.list true true true).bind fun r15 =>
 some (Api_NamesA.mk false r15))
set_option maxHeartbeats 4000000 in
theorem static_union_ok {K : Nat} {p0 : Api_NamesA} {p1 : Api_NamesA} {r : Api_NamesA} (h : static_union K p0 p1 = some r) : Cn Tryz.prog 78 [aggV p0.enc, aggV p1.enc] (aggV r.enc) := by
 refine Cn.oz Tryz.func78 Tryz.call78 Tryz.ntmps78 Tryz.results78 fun hfit => ?_
 unfold static_union at h
 refine AW.kr [] [0, 1] ?_
 refine AW.ks [0, 1, 2] [2, 3, 4] ?_
 refine AW.jo h (fun _ => [(2, .ptr 0 2 0 0), (3, .ptr 1 2 0 0), (4, .ptr 2 2 0 0)]) (fun _ => [vE p0.enc, vE p1.enc, some ⟨2, [[vB false, .d (.val (.slice none 0 0))]]⟩]) (fun oJ2 h hJ2 => ?_) fun ⟨⟩ h => ?_
 ·refine AW.block ?_
  refine AW.jn h (fun v3_0 => [(2, .ptr 0 2 0 0), (3, .ptr 1 2 0 0), (4, .ptr 2 2 0 0), (5, vB v3_0)]) (fun v3_0 => [vE p0.enc, vE p1.enc, some ⟨2, [[vB false, .d (.val (.slice none 0 0))]]⟩]) (fun oJ4 h => ?_) fun v3_0 h => ?_
  ·refine AW.rp ?_
   refine sK h (fun hb5 h => ?_) fun hb5 h => ?_
   ·exact ja [0, 1, 2] h
   exact ja [0, 1, 2] h
  refine AW.tt h (fun hb6 h => ?_) fun hb6 h => ?_
  ·refine AW.ro ?_
   refine cm h static_mix_ok fun r7 hx8 h => ?_
   refine AW.ret ?_
   have h := up h hJ2
   cases h; refine nz ?_; exact .same _
  refine AW.ro ?_
  refine AW.ks [0, 1, 2] [2, 3, 4, 18] ?_
  refine AW.tt h (fun hb9 h => ?_) fun hb9 h => ?_
  ·refine AW.ro ?_
   refine cm h static_mix_ok fun r10 hx11 h => ?_
   refine AW.ret ?_
   have h := up h hJ2
   cases h; refine nz ?_; exact .same _
  refine AW.ro ?_
  refine AW.ks [0, 1, 2] [2, 3, 4, 27] ?_
  refine AW.tk h (fun hb12 h => ?_) fun hb12 h => ?_
  ·refine AW.ro ?_
   refine cm h static_mix_ok fun r13 hx14 h => ?_
   refine AW.ret ?_
   have h := up h hJ2
   cases h; refine nz ?_; exact .same _
  exact jo [0, 1, 2] h
 refine AW.ro ?_
 refine cm h static_mix_ok fun r15 hx16 h => ?_
 refine AW.ret ?_
 cases h; refine nz ?_; exact .same _
/-! ### isochrone/static.BoundOf -/
def static_BoundOf_body (K : Nat) (self37 : NodeA → Option Api_NamesA) (self80 : NodeA → Option Api_NamesA) (p0 : NodeA) : Option Api_NamesA := ((
  (tree_Sort K p0.op).bind fun r3 =>
  if (r3 == (1 : Int)) then
   outM (
    some (Api_NamesA.mk false []))
  else
   ((
    if (r3 == (3 : Int)) then
     some (r3 == (3 : Int))
    else
     some (r3 == (4 : Int))) : Option Bool).bind (fun v6_0 =>
   if v6_0 then
    ((
     if (p0.op == (50 : Int)) then
      some (p0.op == (50 : Int))
     else
      some (p0.op == (52 : Int))) : Option Bool).bind (fun v10_0 =>
    if v10_0 then
     (static_one K p0.name).bind fun r14 =>
     outM (
      some r14)
    else
     if (p0.op == (51 : Int)) then
      (catO p0.name (⟨#[39]⟩ : ByteArray)).bind fun s17 =>
      (static_one K s17).bind fun r19 =>
      outM (
       some r19)
     else
      if (p0.op == (53 : Int)) then
       outM (
        some (Api_NamesA.mk false []))
      else
       if (p0.op == (55 : Int)) then
        (static_one K p0.name).bind fun r23 =>
        (catO p0.name (⟨#[39]⟩ : ByteArray)).bind fun s25 =>
        (static_one K s25).bind fun r27 =>
        (static_union K r23 r27).bind fun r29 =>
        outM (
         some r29)
       else
        ((
         if (p0.op == (56 : Int)) then
          some (p0.op == (56 : Int))
         else
          if (p0.op == (61 : Int)) then
           some (p0.op == (61 : Int))
          else
           some (p0.op == (62 : Int))) : Option Bool).bind (fun v31_0 =>
        if v31_0 then
         (static_everything K ).bind fun r36 =>
         outM (
          some r36)
        else
         if (p0.op == (54 : Int)) then
          (cutL p0.kids none (some (IntKind.wrap .i64 ((p0.kids.length : Int) - (1 : Int))))).bind fun s39 =>
          ((iter (S := Int × Api_NamesA) (R := Api_NamesA) K (fun again (i45_0, i45_1) =>
           if (decide (i45_0 < (s39.length : Int))) then
            (idx s39 i45_0).bind fun x50 =>
            (self37 (x50)).bind fun r52 =>
            (static_union K i45_1 r52).bind fun r54 =>
            again (IntKind.wrap .i64 (i45_0 + (1 : Int)), r54)
           else
            some i45_1) ((0 : Int), (Api_NamesA.mk false []))) : Option Api_NamesA).bind (fun e46_0 =>
          outM (
           some e46_0))
         else
          some (.go ())))
   else
    some (.go ()))) : Option (Out Unit _)).bind (Out.fin fun _ =>
 (tree_Sort K p0.op).bind fun r56 =>
 if (r56 == (2 : Int)) then
  (self80 (p0)).bind fun r59 =>
  some r59
 else
  ((iter (S := Int × Api_NamesA) (R := Api_NamesA) K (fun again (i65_0, i65_1) =>
   if (decide (i65_0 < (p0.kids.length : Int))) then
    (idx p0.kids i65_0).bind fun x70 =>
    (self37 (x70)).bind fun r72 =>
    (static_union K i65_1 r72).bind fun r74 =>
    again (IntKind.wrap .i64 (i65_0 + (1 : Int)), r74)
   else
    some i65_1) ((0 : Int), (Api_NamesA.mk false []))) : Option Api_NamesA).bind (fun e66_0 =>
  some e66_0))
set_option maxHeartbeats 4000000 in
theorem static_BoundOf_step (K : Nat) (self37 : NodeA → Option Api_NamesA) (self80 : NodeA → Option Api_NamesA) (hself37 : ∀ (q : NodeA) (r : Api_NamesA), self37 q = some r → Cn Tryz.prog 37 [aggV q.enc] (aggV r.enc)) (hself80 : ∀ (q : NodeA) (r : Api_NamesA), self80 q = some r → Cn Tryz.prog 80 [aggV q.enc] (aggV r.enc)) (p0 : NodeA) (r : Api_NamesA) (h : static_BoundOf_body K self37 self80 p0 = some r) : Cn Tryz.prog 37 [aggV p0.enc] (aggV r.enc) := by
 refine Cn.oz Tryz.func37 Tryz.call37 Tryz.ntmps37 Tryz.results37 fun hfit => ?_
 unfold static_BoundOf_body at h
 refine AW.kr [] [0] ?_
 refine AW.kr [0, 1] [1, 2] ?_
 refine AW.ks [0, 1, 2] [1, 2, 3] ?_
 refine AW.jo h (fun _ => [(1, .ptr 0 6 0 0), (2, .ptr 1 2 0 0), (3, .ptr 2 2 0 0)]) (fun _ => [vE p0.enc, some ⟨2, [[vB false, .d (.val (.slice none 0 0))]]⟩, some ⟨2, [[vB false, .d (.val (.slice none 0 0))]]⟩]) (fun oJ2 h hJ2 => ?_) fun ⟨⟩ h => ?_
 ·refine AW.ro ?_
  refine cm h tree_Sort_ok fun r3 hx4 h => ?_
  refine AW.ks [0, 1, 2] [1, 2, 3, 10] ?_
  refine AW.block ?_
  refine AW.ro ?_
  refine AW.ks [0, 1, 2] [1, 2, 3, 10, 11] ?_
  refine AW.tt h (fun hb5 h => ?_) fun hb5 h => ?_
  ·refine AW.ro ?_
   refine AW.ret ?_
   have h := up h hJ2
   cases h; refine nz ?_; exact .aggL ⟨.same _, .nil, trivial⟩
  refine AW.jn h (fun v6_0 => [(1, .ptr 0 6 0 0), (2, .ptr 1 2 0 0), (3, .ptr 2 2 0 0), (14, vB v6_0)]) (fun v6_0 => [vE p0.enc, some ⟨2, [[vB false, .d (.val (.slice none 0 0))]]⟩, some ⟨2, [[vB false, .d (.val (.slice none 0 0))]]⟩]) (fun oJ7 h => ?_) fun v6_0 h => ?_
  ·refine AW.ro ?_
   refine AW.ks [0, 1, 2] [1, 2, 3, 10, 14] ?_
   refine AW.tt h (fun hb8 h => ?_) fun hb8 h => ?_
   ·refine AW.sk ?_
    exact ja [0, 1, 2] h
   refine AW.rp ?_
   exact ja [0, 1, 2] h
  refine AW.tk h (fun hb9 h => ?_) fun hb9 h => ?_
  ·refine AW.ro ?_
   refine AW.ks [0, 1, 2] [1, 2, 3, 18] ?_
   refine AW.block ?_
   refine AW.jn h (fun v10_0 => [(1, .ptr 0 6 0 0), (2, .ptr 1 2 0 0), (3, .ptr 2 2 0 0), (18, vI p0.op), (19, vB v10_0)]) (fun v10_0 => [vE p0.enc, some ⟨2, [[vB false, .d (.val (.slice none 0 0))]]⟩, some ⟨2, [[vB false, .d (.val (.slice none 0 0))]]⟩]) (fun oJ11 h => ?_) fun v10_0 h => ?_
   ·refine AW.ro ?_
    refine AW.ks [0, 1, 2] [1, 2, 3, 18, 19] ?_
    refine AW.tt h (fun hb12 h => ?_) fun hb12 h => ?_
    ·refine AW.sk ?_
     exact ja [0, 1, 2] h
    refine AW.rp ?_
    exact ja [0, 1, 2] h
   refine AW.tt h (fun hb13 h => ?_) fun hb13 h => ?_
   ·refine AW.ro ?_
    refine cm h static_one_ok fun r14 hx15 h => ?_
    refine AW.ret ?_
    have h := up h hJ2
    cases h; refine nz ?_; exact .same _
   refine AW.ro ?_
   refine AW.ks [0, 1, 2] [1, 2, 3, 18, 25] ?_
   refine AW.tt h (fun hb16 h => ?_) fun hb16 h => ?_
   ·refine AW.ro ?_
    apply bE h; intro s17 hx18 h; have hx18 := bt hx18; refine ns ?_
    refine cm h static_one_ok fun r19 hx20 h => ?_
    refine AW.ret ?_
    have h := up h hJ2
    cases h; refine nz ?_; exact .same _
   refine AW.ro ?_
   refine AW.ks [0, 1, 2] [1, 2, 3, 18, 31] ?_
   refine AW.tt h (fun hb21 h => ?_) fun hb21 h => ?_
   ·refine AW.ro ?_
    refine AW.ret ?_
    have h := up h hJ2
    cases h; refine nz ?_; exact .aggL ⟨.same _, .nil, trivial⟩
   refine AW.ro ?_
   refine AW.ks [0, 1, 2] [1, 2, 3, 18, 34] ?_
   refine AW.tt h (fun hb22 h => ?_) fun hb22 h => ?_
   ·refine AW.ro ?_
    refine pm h static_one_ok fun r23 hx24 h => ?_
    apply bE h; intro s25 hx26 h; have hx26 := bt hx26; refine ns ?_
    refine pm h static_one_ok fun r27 hx28 h => ?_
    refine pm h static_union_ok fun r29 hx30 h => ?_
    refine AW.ret ?_
    have h := up h hJ2
    cases h; refine nz ?_; exact .same _
   refine AW.jn h (fun v31_0 => [(1, .ptr 0 6 0 0), (2, .ptr 1 2 0 0), (3, .ptr 2 2 0 0), (18, vI p0.op), (44, vB v31_0)]) (fun v31_0 => [vE p0.enc, some ⟨2, [[vB false, .d (.val (.slice none 0 0))]]⟩, some ⟨2, [[vB false, .d (.val (.slice none 0 0))]]⟩]) (fun oJ32 h => ?_) fun v31_0 h => ?_
   ·refine AW.ro ?_
    refine AW.ks [0, 1, 2] [1, 2, 3, 18, 44] ?_
    refine AW.tt h (fun hb33 h => ?_) fun hb33 h => ?_
    ·refine AW.sk ?_
     exact ja [0, 1, 2] h
    refine AW.ro ?_
    refine AW.ks [0, 1, 2] [1, 2, 3, 18, 44] ?_
    refine AW.tt h (fun hb34 h => ?_) fun hb34 h => ?_
    ·refine AW.sk ?_
     exact ja [0, 1, 2] h
    refine AW.rp ?_
    exact ja [0, 1, 2] h
   refine AW.tt h (fun hb35 h => ?_) fun hb35 h => ?_
   ·refine AW.ro ?_
    refine cm h static_everything_ok fun r36 hx37 h => ?_
    refine AW.ret ?_
    have h := up h hJ2
    cases h; refine nz ?_; exact .same _
   refine AW.ro ?_
   refine AW.ks [0, 1, 2] [1, 2, 3, 49] ?_
   refine AW.tk h (fun hb38 h => ?_) fun hb38 h => ?_
   ·refine AW.one ?_
    refine AW.ro ?_
    refine bb h fun s39 hx40 h => ?_
    refine AW.ks [1, 2] [2, 3, 57, 58, 59] ?_
    refine AW.cutS [0, 1] [] [] [(1, ⟨2, [[.d (.val (.bool false)), .d (slD strV [])]]⟩)] [(2, .ptr 0 2 0 0), (3, .ptr 1 2 0 0), (57, vL NodeA.enc s39), (58, vI (s39.length : Int)), (59, vI (0 : Int))] [some ⟨2, [[vB false, .d (.val (.slice none 0 0))]]⟩, some ⟨2, [[vB false, vL strV []]]⟩] (by simp only [go_sem, reduceEqDiff, reduceAdd, reduceSub, reduceMul, reduceLeDiff, reduceLT, Nat.reduceBEq, reduceIte, sealL_cons, sealL_nil]) (by simp only [go_sem, reduceEqDiff, reduceAdd, reduceSub, reduceMul, reduceLeDiff, reduceLT, Nat.reduceBEq, reduceIte, sealH_cons, sealH_nil]; exact ⟨⟨.same _, .nil, trivial⟩, trivial⟩) (by simp only [go_sem, reduceEqDiff, reduceAdd, reduceSub, reduceMul, reduceLeDiff, reduceLT, Nat.reduceBEq, reduceIte]) ?_
    refine AW.lm h (fun e46_0 => [(2, .ptr 0 2 0 0), (3, .ptr 1 2 0 0)]) (fun e46_0 => [some ⟨2, [[vB false, .d (.val (.slice none 0 0))]]⟩, vE e46_0.enc]) (fun (i45_0, i45_1) => [(2, .ptr 0 2 0 0), (3, .ptr 1 2 0 0), (57, vL NodeA.enc s39), (58, vI (s39.length : Int)), (59, vI i45_0)]) (fun (i45_0, i45_1) => [some ⟨2, [[vB false, .d (.val (.slice none 0 0))]]⟩, vE i45_1.enc]) [0, 1] (fun oJ48 again ⟨i45_0, i45_1⟩ h => ?_) fun e46_0 h => ?_
    ·try dsimp only at h
     refine AW.ro ?_
     refine AW.ks [0, 1] [2, 3, 57, 58, 59, 60] ?_
     refine AW.one ?_
     refine AW.tt h (fun hb49 h => ?_) fun hb49 h => ?_
     ·refine AW.sk ?_
      refine AW.ks [0, 1] [2, 3, 57, 58, 59] ?_
      refine AW.one ?_
      refine AW.block ?_
      refine AW.ro ?_
      refine bx h fun x50 h0 h1 h => ?_
      refine AW.ks [0, 1, 4] [2, 3, 5, 57, 58, 59] ?_
      refine AW.rp ?_
      refine pm h (hself37 _ _) fun r52 hx53 h => ?_
      refine pm h static_union_ok fun r54 hx55 h => ?_
      refine AW.ks [0, 1] [2, 3, 57, 58, 59] ?_
      refine AW.rp ?_
      exact na [0, 1] h
     refine AW.ex ?_
     exact ja [0, 1] h
    refine AW.kr [0, 1] [2, 3] ?_
    refine AW.ret ?_
    have h := up h hJ2
    cases h; refine nz ?_; exact .same _
   exact jo [0, 1, 2] h
  exact jo [0, 1, 2] h
 refine AW.one ?_
 refine AW.ro ?_
 refine cm h tree_Sort_ok fun r56 hx57 h => ?_
 refine AW.ks [0, 1, 2] [1, 2, 3, 72] ?_
 refine AW.tk h (fun hb58 h => ?_) fun hb58 h => ?_
 ·refine AW.ro ?_
  refine cm h (hself80 _ _) fun r59 hx60 h => ?_
  refine AW.ret ?_
  cases h; refine nz ?_; exact .same _
 refine AW.ks [0, 1, 2] [1, 2, 3] ?_
 refine AW.one ?_
 refine AW.ro ?_
 refine AW.ks [1, 2] [2, 3, 76, 77, 78] ?_
 refine AW.cutS [0, 1] [] [] [(1, ⟨2, [[.d (.val (.bool false)), .d (slD strV [])]]⟩)] [(2, .ptr 0 2 0 0), (3, .ptr 1 2 0 0), (76, vL NodeA.enc p0.kids), (77, vI (p0.kids.length : Int)), (78, vI (0 : Int))] [some ⟨2, [[vB false, .d (.val (.slice none 0 0))]]⟩, some ⟨2, [[vB false, vL strV []]]⟩] (by simp only [go_sem, reduceEqDiff, reduceAdd, reduceSub, reduceMul, reduceLeDiff, reduceLT, Nat.reduceBEq, reduceIte, sealL_cons, sealL_nil]) (by simp only [go_sem, reduceEqDiff, reduceAdd, reduceSub, reduceMul, reduceLeDiff, reduceLT, Nat.reduceBEq, reduceIte, sealH_cons, sealH_nil]; exact ⟨⟨.same _, .nil, trivial⟩, trivial⟩) (by simp only [go_sem, reduceEqDiff, reduceAdd, reduceSub, reduceMul, reduceLeDiff, reduceLT, Nat.reduceBEq, reduceIte]) ?_
 refine AW.lm h (fun e66_0 => [(2, .ptr 0 2 0 0), (3, .ptr 1 2 0 0)]) (fun e66_0 => [some ⟨2, [[vB false, .d (.val (.slice none 0 0))]]⟩, vE e66_0.enc]) (fun (i65_0, i65_1) => [(2, .ptr 0 2 0 0), (3, .ptr 1 2 0 0), (76, vL NodeA.enc p0.kids), (77, vI (p0.kids.length : Int)), (78, vI i65_0)]) (fun (i65_0, i65_1) => [some ⟨2, [[vB false, .d (.val (.slice none 0 0))]]⟩, vE i65_1.enc]) [0, 1] (fun oJ68 again ⟨i65_0, i65_1⟩ h => ?_) fun e66_0 h => ?_
 ·try dsimp only at h
  refine AW.ro ?_
  refine AW.ks [0, 1] [2, 3, 76, 77, 78, 79] ?_
  refine AW.one ?_
  refine AW.tt h (fun hb69 h => ?_) fun hb69 h => ?_
  ·refine AW.sk ?_
   refine AW.ks [0, 1] [2, 3, 76, 77, 78] ?_
   refine AW.one ?_
   refine AW.block ?_
   refine AW.ro ?_
   refine bx h fun x70 h0 h1 h => ?_
   refine AW.ks [0, 1, 4] [2, 3, 7, 76, 77, 78] ?_
   refine AW.rp ?_
   refine pm h (hself37 _ _) fun r72 hx73 h => ?_
   refine pm h static_union_ok fun r74 hx75 h => ?_
   refine AW.ks [0, 1] [2, 3, 76, 77, 78] ?_
   refine AW.rp ?_
   exact na [0, 1] h
  refine AW.ex ?_
  exact ja [0, 1] h
 refine AW.kr [0, 1] [2, 3] ?_
 refine AW.ret ?_
 cases h; refine nz ?_; exact .same _
/-! ### isochrone/static.everywhere -/
def static_everywhere_body (K : Nat) (self37 : NodeA → Option Api_NamesA) (self80 : NodeA → Option Api_NamesA) (p0 : NodeA) : Option Api_NamesA := ((
  ((
   if (p0.op == (33 : Int)) then
    some true
   else
    some (p0.op == (34 : Int))) : Option Bool).bind (fun v3_0 =>
  if v3_0 then
   (static_one K p0.name).bind fun r7 =>
   some (r7.all, r7.list)
  else
   (tree_Sort K p0.op).bind fun r9 =>
   if (decide ((3 : Int) ≤ r9)) then
    (self37 (p0)).bind fun r12 =>
    some (r12.all, r12.list)
   else
    some (false, []))) : Option (Bool × (List ByteArray))).bind (fun (v1_0, v1_1) =>
 ((iter (S := Int × Api_NamesA) (R := Api_NamesA) K (fun again (i14_0, i14_1) =>
  if (decide (i14_0 < (p0.kids.length : Int))) then
   (idx p0.kids i14_0).bind fun x19 =>
   (self80 (x19)).bind fun r21 =>
   (static_union K i14_1 r21).bind fun r23 =>
   again (IntKind.wrap .i64 (i14_0 + (1 : Int)), r23)
  else
   some i14_1) ((0 : Int), (Api_NamesA.mk v1_0 v1_1))) : Option Api_NamesA).bind (fun e15_0 =>
 some e15_0))
set_option maxHeartbeats 4000000 in
theorem static_everywhere_step (K : Nat) (self37 : NodeA → Option Api_NamesA) (self80 : NodeA → Option Api_NamesA) (hself37 : ∀ (q : NodeA) (r : Api_NamesA), self37 q = some r → Cn Tryz.prog 37 [aggV q.enc] (aggV r.enc)) (hself80 : ∀ (q : NodeA) (r : Api_NamesA), self80 q = some r → Cn Tryz.prog 80 [aggV q.enc] (aggV r.enc)) (p0 : NodeA) (r : Api_NamesA) (h : static_everywhere_body K self37 self80 p0 = some r) : Cn Tryz.prog 80 [aggV p0.enc] (aggV r.enc) := by
 refine Cn.oz Tryz.func80 Tryz.call80 Tryz.ntmps80 Tryz.results80 fun hfit => ?_
 unfold static_everywhere_body at h
 refine AW.kr [] [0] ?_
 refine AW.kr [0, 1] [1, 2] ?_
 refine AW.ks [0, 1, 2] [1, 2, 3] ?_
 refine AW.jn h (fun (v1_0, v1_1) => [(1, .ptr 0 6 0 0), (2, .ptr 1 2 0 0), (3, .ptr 2 2 0 0)]) (fun (v1_0, v1_1) => [vE p0.enc, some ⟨2, [[vB false, .d (.val (.slice none 0 0))]]⟩, some ⟨2, [[vB v1_0, vL strV v1_1]]⟩]) (fun oJ2 h => ?_) fun ⟨v1_0, v1_1⟩ h => ?_
 ·refine AW.block ?_
  refine AW.jn h (fun v3_0 => [(1, .ptr 0 6 0 0), (2, .ptr 1 2 0 0), (3, .ptr 2 2 0 0), (6, vB v3_0)]) (fun v3_0 => [vE p0.enc, some ⟨2, [[vB false, .d (.val (.slice none 0 0))]]⟩, some ⟨2, [[vB false, .d (.val (.slice none 0 0))]]⟩]) (fun oJ4 h => ?_) fun v3_0 h => ?_
  ·refine AW.rp ?_
   refine sK h (fun hb5 h => ?_) fun hb5 h => ?_
   ·exact ja [0, 1, 2] h
   exact ja [0, 1, 2] h
  refine AW.tt h (fun hb6 h => ?_) fun hb6 h => ?_
  ·refine AW.rp ?_
   refine cm h static_one_ok fun r7 hx8 h => ?_
   exact ja [0, 1, 2] h
  refine AW.ro ?_
  refine cm h tree_Sort_ok fun r9 hx10 h => ?_
  refine AW.ks [0, 1, 2] [1, 2, 3, 18] ?_
  refine AW.tk h (fun hb11 h => ?_) fun hb11 h => ?_
  ·refine AW.rp ?_
   refine cm h (hself37 _ _) fun r12 hx13 h => ?_
   exact ja [0, 1, 2] h
  refine JoinQ.mkS (false, []) [0, 1, 2] [] [] [(2, ⟨2, [[.d (.val (.bool false)), .d (slD strV [])]]⟩)] (Option.some.inj h) (by simp only [go_sem, reduceEqDiff, reduceAdd, reduceSub, reduceMul, reduceLeDiff, reduceLT, Nat.reduceBEq, reduceIte, sealL_cons, sealL_nil]) (by simp only [go_sem, reduceEqDiff, reduceAdd, reduceSub, reduceMul, reduceLeDiff, reduceLT, Nat.reduceBEq, reduceIte, sealH_cons, sealH_nil]; exact ⟨⟨.same _, .nil, trivial⟩, trivial⟩) (by simp only [go_sem, reduceEqDiff, reduceAdd, reduceSub, reduceMul, reduceLeDiff, reduceLT, Nat.reduceBEq, reduceIte])
 try dsimp only at h
 refine AW.one ?_
 refine AW.ro ?_
 refine AW.ks [1, 2] [2, 3, 26, 27, 28] ?_
 refine AW.lm h (fun e15_0 => [(2, .ptr 0 2 0 0), (3, .ptr 1 2 0 0)]) (fun e15_0 => [some ⟨2, [[vB false, .d (.val (.slice none 0 0))]]⟩, vE e15_0.enc]) (fun (i14_0, i14_1) => [(2, .ptr 0 2 0 0), (3, .ptr 1 2 0 0), (26, vL NodeA.enc p0.kids), (27, vI (p0.kids.length : Int)), (28, vI i14_0)]) (fun (i14_0, i14_1) => [some ⟨2, [[vB false, .d (.val (.slice none 0 0))]]⟩, vE i14_1.enc]) [0, 1] (fun oJ17 again ⟨i14_0, i14_1⟩ h => ?_) fun e15_0 h => ?_
 ·try dsimp only at h
  refine AW.ro ?_
  refine AW.ks [0, 1] [2, 3, 26, 27, 28, 29] ?_
  refine AW.one ?_
  refine AW.tt h (fun hb18 h => ?_) fun hb18 h => ?_
  ·refine AW.sk ?_
   refine AW.ks [0, 1] [2, 3, 26, 27, 28] ?_
   refine AW.one ?_
   refine AW.block ?_
   refine AW.ro ?_
   refine bx h fun x19 h0 h1 h => ?_
   refine AW.ks [0, 1, 4] [2, 3, 5, 26, 27, 28] ?_
   refine AW.rp ?_
   refine pm h (hself80 _ _) fun r21 hx22 h => ?_
   refine pm h static_union_ok fun r23 hx24 h => ?_
   refine AW.ks [0, 1] [2, 3, 26, 27, 28] ?_
   refine AW.rp ?_
   exact na [0, 1] h
  refine AW.ex ?_
  exact ja [0, 1] h
 refine AW.kr [0, 1] [2, 3] ?_
 refine AW.ret ?_
 cases h; refine nz ?_; exact .same _
def grp_static_BoundOf (K : Nat) : Nat → (NodeA → Option Api_NamesA) × (NodeA → Option Api_NamesA)
 | 0 => (fun _ => none, fun _ => none)
 | k + 1 => (fun q => static_BoundOf_body K (grp_static_BoundOf K k).1 (grp_static_BoundOf K k).2 q, fun q => static_everywhere_body K (grp_static_BoundOf K k).1 (grp_static_BoundOf K k).2 q)
def static_BoundOf (K : Nat) (p0 : NodeA) : Option Api_NamesA := (grp_static_BoundOf K K).1 p0
theorem key_static_BoundOf {K : Nat} (k : Nat) : (∀ (q : NodeA) (r : Api_NamesA), (grp_static_BoundOf K k).1 q = some r → Cn Tryz.prog 37 [aggV q.enc] (aggV r.enc)) ∧ (∀ (q : NodeA) (r : Api_NamesA), (grp_static_BoundOf K k).2 q = some r → Cn Tryz.prog 80 [aggV q.enc] (aggV r.enc)) := by
 induction k with
 | zero => exact ⟨(fun q r h => nomatch (show (none : Option _) = some r from h)), (fun q r h => nomatch (show (none : Option _) = some r from h))⟩
 | succ k ih => exact ⟨fun q r h => static_BoundOf_step K _ _ ih.1 ih.2 q r h, fun q r h => static_everywhere_step K _ _ ih.1 ih.2 q r h⟩
theorem static_BoundOf_ok {K : Nat} {p0 : NodeA} {r : Api_NamesA} (h : static_BoundOf K p0 = some r) : Cn Tryz.prog 37 [aggV p0.enc] (aggV r.enc) := (key_static_BoundOf K).1 p0 r h
/-! ### isochrone/static.not -/
def static_not (K : Nat) (p0 : Api_NamesA) : Option Api_NamesA := some (Api_NamesA.mk (!p0.all) p0.list)
set_option maxHeartbeats 4000000 in
theorem static_not_ok {K : Nat} {p0 : Api_NamesA} {r : Api_NamesA} (h : static_not K p0 = some r) : Cn Tryz.prog 107 [aggV p0.enc] (aggV r.enc) := by
 refine Cn.oz Tryz.func107 Tryz.call107 Tryz.ntmps107 Tryz.results107 fun hfit => ?_
 unfold static_not at h
 refine AW.kr [] [0] ?_
 refine AW.kr [0, 1] [1, 2] ?_
 refine AW.ret ?_
 cases h; refine nz ?_; exact .same _
/-! ### isochrone/static.meet -/
def static_meet (K : Nat) (p0 : Api_NamesA) (p1 : Api_NamesA) : Option Api_NamesA := (static_not K p0).bind fun r1 =>
 (static_not K p1).bind fun r3 =>
 (static_union K r1 r3).bind fun r5 =>
 (static_not K r5).bind fun r7 =>
 some r7
set_option maxHeartbeats 4000000 in
theorem static_meet_ok {K : Nat} {p0 : Api_NamesA} {p1 : Api_NamesA} {r : Api_NamesA} (h : static_meet K p0 p1 = some r) : Cn Tryz.prog 106 [aggV p0.enc, aggV p1.enc] (aggV r.enc) := by
 refine Cn.oz Tryz.func106 Tryz.call106 Tryz.ntmps106 Tryz.results106 fun hfit => ?_
 unfold static_meet at h
 refine AW.kr [] [0, 1] ?_
 refine AW.kr [0, 1, 2] [2, 3, 4] ?_
 refine pm h static_not_ok fun r1 hx2 h => ?_
 refine pm h static_not_ok fun r3 hx4 h => ?_
 refine pm h static_union_ok fun r5 hx6 h => ?_
 refine pm h static_not_ok fun r7 hx8 h => ?_
 refine AW.ret ?_
 cases h; refine nz ?_; exact .same _
/-! ### isochrone/static.MustOf -/
def static_MustOf_body (K : Nat) (self79 : NodeA → Option Api_NamesA) (p0 : NodeA) : Option Api_NamesA := ((
  ((
   if (p0.op == (50 : Int)) then
    some (p0.op == (50 : Int))
   else
    if (p0.op == (52 : Int)) then
     some (p0.op == (52 : Int))
    else
     some (p0.op == (51 : Int))) : Option Bool).bind (fun v3_0 =>
  if v3_0 then
   (static_BoundOf K p0).bind fun r8 =>
   outM (
    some r8)
  else
   if (p0.op == (54 : Int)) then
    ((iter (S := Int × Api_NamesA) (R := Api_NamesA) K (fun again (i15_0, i15_1) =>
     if (decide (i15_0 < (p0.kids.length : Int))) then
      ((
       (idx p0.kids i15_0).bind fun x22 =>
       if (x22.op == (55 : Int)) then
        (static_BoundOf K x22).bind fun r25 =>
        (static_union K i15_1 r25).bind fun r27 =>
        some r27
       else
        some i15_1) : Option Api_NamesA).bind (fun v20_0 =>
      again (IntKind.wrap .i64 (i15_0 + (1 : Int)), v20_0))
     else
      some i15_1) ((0 : Int), (Api_NamesA.mk false []))) : Option Api_NamesA).bind (fun e16_0 =>
    some (.go (e16_0.all, e16_0.list)))
   else
    if (p0.op == (57 : Int)) then
     (idx p0.kids (0 : Int)).bind fun x30 =>
     (self79 (x30)).bind fun r32 =>
     (idx p0.kids (1 : Int)).bind fun x34 =>
     (self79 (x34)).bind fun r36 =>
     (static_union K r32 r36).bind fun r38 =>
     outM (
      some r38)
    else
     if (p0.op == (58 : Int)) then
      (idx p0.kids (0 : Int)).bind fun x41 =>
      (self79 (x41)).bind fun r43 =>
      (idx p0.kids (1 : Int)).bind fun x45 =>
      (self79 (x45)).bind fun r47 =>
      (static_meet K r43 r47).bind fun r49 =>
      outM (
       some r49)
     else
      if (p0.op == (60 : Int)) then
       (idx p0.kids (0 : Int)).bind fun x52 =>
       (self79 (x52)).bind fun r54 =>
       outM (
        some r54)
      else
       some (.go (false, [])))) : Option (Out (Bool × (List ByteArray)) _)).bind (Out.fin fun (v1_0, v1_1) =>
 some (Api_NamesA.mk v1_0 v1_1))
set_option maxHeartbeats 4000000 in
theorem static_MustOf_step (K : Nat) (self79 : NodeA → Option Api_NamesA) (hself79 : ∀ (q : NodeA) (r : Api_NamesA), self79 q = some r → Cn Tryz.prog 79 [aggV q.enc] (aggV r.enc)) (p0 : NodeA) (r : Api_NamesA) (h : static_MustOf_body K self79 p0 = some r) : Cn Tryz.prog 79 [aggV p0.enc] (aggV r.enc) := by
 refine Cn.oz Tryz.func79 Tryz.call79 Tryz.ntmps79 Tryz.results79 fun hfit => ?_
 unfold static_MustOf_body at h
 refine AW.kr [] [0] ?_
 refine AW.kr [0, 1] [1, 2] ?_
 refine AW.ks [0, 1, 2] [1, 2, 3] ?_
 refine AW.jo h (fun (v1_0, v1_1) => [(2, .ptr 0 2 0 0), (3, .ptr 1 2 0 0)]) (fun (v1_0, v1_1) => [some ⟨2, [[vB false, .d (.val (.slice none 0 0))]]⟩, some ⟨2, [[vB v1_0, vL strV v1_1]]⟩]) (fun oJ2 h hJ2 => ?_) fun ⟨v1_0, v1_1⟩ h => ?_
 ·refine AW.ro ?_
  refine AW.ks [0, 1, 2] [1, 2, 3, 7] ?_
  refine AW.block ?_
  refine AW.jn h (fun v3_0 => [(1, .ptr 0 6 0 0), (2, .ptr 1 2 0 0), (3, .ptr 2 2 0 0), (7, vI p0.op), (8, vB v3_0)]) (fun v3_0 => [vE p0.enc, some ⟨2, [[vB false, .d (.val (.slice none 0 0))]]⟩, some ⟨2, [[vB false, .d (.val (.slice none 0 0))]]⟩]) (fun oJ4 h => ?_) fun v3_0 h => ?_
  ·refine AW.ro ?_
   refine AW.ks [0, 1, 2] [1, 2, 3, 7, 8] ?_
   refine AW.tt h (fun hb5 h => ?_) fun hb5 h => ?_
   ·refine AW.sk ?_
    exact ja [0, 1, 2] h
   refine AW.ro ?_
   refine AW.ks [0, 1, 2] [1, 2, 3, 7, 8] ?_
   refine AW.tt h (fun hb6 h => ?_) fun hb6 h => ?_
   ·refine AW.sk ?_
    exact ja [0, 1, 2] h
   refine AW.rp ?_
   exact ja [0, 1, 2] h
  refine AW.tt h (fun hb7 h => ?_) fun hb7 h => ?_
  ·refine AW.ro ?_
   refine cm h static_BoundOf_ok fun r8 hx9 h => ?_
   refine AW.ret ?_
   have h := up h hJ2
   cases h; refine nz ?_; exact .same _
  refine AW.ro ?_
  refine AW.ks [0, 1, 2] [1, 2, 3, 7, 14] ?_
  refine AW.tt h (fun hb10 h => ?_) fun hb10 h => ?_
  ·refine AW.ro ?_
   refine AW.ks [1, 2] [2, 3, 17, 18, 19] ?_
   refine AW.cutS [0, 1] [] [] [(1, ⟨2, [[.d (.val (.bool false)), .d (slD strV [])]]⟩)] [(2, .ptr 0 2 0 0), (3, .ptr 1 2 0 0), (17, vL NodeA.enc p0.kids), (18, vI (p0.kids.length : Int)), (19, vI (0 : Int))] [some ⟨2, [[vB false, .d (.val (.slice none 0 0))]]⟩, some ⟨2, [[vB false, vL strV []]]⟩] (by simp only [go_sem, reduceEqDiff, reduceAdd, reduceSub, reduceMul, reduceLeDiff, reduceLT, Nat.reduceBEq, reduceIte, sealL_cons, sealL_nil]) (by simp only [go_sem, reduceEqDiff, reduceAdd, reduceSub, reduceMul, reduceLeDiff, reduceLT, Nat.reduceBEq, reduceIte, sealH_cons, sealH_nil]; exact ⟨⟨.same _, .nil, trivial⟩, trivial⟩) (by simp only [go_sem, reduceEqDiff, reduceAdd, reduceSub, reduceMul, reduceLeDiff, reduceLT, Nat.reduceBEq, reduceIte]) ?_
   refine AW.lm h (fun e16_0 => [(2, .ptr 0 2 0 0), (3, .ptr 1 2 0 0)]) (fun e16_0 => [some ⟨2, [[vB false, .d (.val (.slice none 0 0))]]⟩, vE e16_0.enc]) (fun (i15_0, i15_1) => [(2, .ptr 0 2 0 0), (3, .ptr 1 2 0 0), (17, vL NodeA.enc p0.kids), (18, vI (p0.kids.length : Int)), (19, vI i15_0)]) (fun (i15_0, i15_1) => [some ⟨2, [[vB false, .d (.val (.slice none 0 0))]]⟩, vE i15_1.enc]) [0, 1] (fun oJ18 again ⟨i15_0, i15_1⟩ h => ?_) fun e16_0 h => ?_
   ·try dsimp only at h
    refine AW.ro ?_
    refine AW.ks [0, 1] [2, 3, 17, 18, 19, 20] ?_
    refine AW.one ?_
    refine AW.tt h (fun hb19 h => ?_) fun hb19 h => ?_
    ·refine AW.sk ?_
     refine AW.ks [0, 1] [2, 3, 17, 18, 19] ?_
     refine AW.jn h (fun v20_0 => [(2, .ptr 0 2 0 0), (3, .ptr 1 2 0 0), (17, vL NodeA.enc p0.kids), (18, vI (p0.kids.length : Int)), (19, vI i15_0)]) (fun v20_0 => [some ⟨2, [[vB false, .d (.val (.slice none 0 0))]]⟩, vE v20_0.enc]) (fun oJ21 h => ?_) fun v20_0 h => ?_
     ·refine AW.block ?_
      refine AW.ro ?_
      refine bx h fun x22 h0 h1 h => ?_
      refine AW.kr [0, 1, 4] [2, 3, 5, 17, 18, 19] ?_
      refine AW.ks [0, 1, 2] [2, 3, 5, 17, 18, 19, 25] ?_
      refine AW.tk h (fun hb24 h => ?_) fun hb24 h => ?_
      ·refine AW.rp ?_
       refine pm h static_BoundOf_ok fun r25 hx26 h => ?_
       refine pm h static_union_ok fun r27 hx28 h => ?_
       exact ja [0, 1] h
      exact ja [0, 1] h
     refine AW.rp ?_
     exact na [0, 1] h
    refine AW.ex ?_
    exact ja [0, 1] h
   exact jo [0, 1] h
  refine AW.ro ?_
  refine AW.ks [0, 1, 2] [1, 2, 3, 7, 31] ?_
  refine AW.tt h (fun hb29 h => ?_) fun hb29 h => ?_
  ·refine AW.ro ?_
   refine bx h fun x30 h0 h1 h => ?_
   refine pm h (hself79 _ _) fun r32 hx33 h => ?_
   refine bx h fun x34 h0 h1 h => ?_
   refine pm h (hself79 _ _) fun r36 hx37 h => ?_
   refine pm h static_union_ok fun r38 hx39 h => ?_
   refine AW.ret ?_
   have h := up h hJ2
   cases h; refine nz ?_; exact .same _
  refine AW.ro ?_
  refine AW.ks [0, 1, 2] [1, 2, 3, 7, 44] ?_
  refine AW.tt h (fun hb40 h => ?_) fun hb40 h => ?_
  ·refine AW.ro ?_
   refine bx h fun x41 h0 h1 h => ?_
   refine pm h (hself79 _ _) fun r43 hx44 h => ?_
   refine bx h fun x45 h0 h1 h => ?_
   refine pm h (hself79 _ _) fun r47 hx48 h => ?_
   refine pm h static_meet_ok fun r49 hx50 h => ?_
   refine AW.ret ?_
   have h := up h hJ2
   cases h; refine nz ?_; exact .same _
  refine AW.ro ?_
  refine AW.ks [0, 1, 2] [1, 2, 3, 57] ?_
  refine AW.tk h (fun hb51 h => ?_) fun hb51 h => ?_
  ·refine AW.ro ?_
   refine bx h fun x52 h0 h1 h => ?_
   refine cm h (hself79 _ _) fun r54 hx55 h => ?_
   refine AW.ret ?_
   have h := up h hJ2
   cases h; refine nz ?_; exact .same _
  refine JoinQ.mkS (false, []) [1, 2] [] [] [(2, ⟨2, [[.d (.val (.bool false)), .d (slD strV [])]]⟩)] (Option.some.inj h).symm (by simp only [go_sem, reduceEqDiff, reduceAdd, reduceSub, reduceMul, reduceLeDiff, reduceLT, Nat.reduceBEq, reduceIte, sealL_cons, sealL_nil]) (by simp only [go_sem, reduceEqDiff, reduceAdd, reduceSub, reduceMul, reduceLeDiff, reduceLT, Nat.reduceBEq, reduceIte, sealH_cons, sealH_nil]; exact ⟨⟨.same _, .nil, trivial⟩, trivial⟩) (by simp only [go_sem, reduceEqDiff, reduceAdd, reduceSub, reduceMul, reduceLeDiff, reduceLT, Nat.reduceBEq, reduceIte])
 try dsimp only at h
 refine AW.ro ?_
 refine AW.ret ?_
 cases h; refine nz ?_; exact .same _
def static_MustOf (K : Nat) (p0 : NodeA) : Option Api_NamesA := iter K (fun self q => static_MustOf_body K self q) p0
theorem key_static_MustOf {K : Nat} (k : Nat) : (∀ (q : NodeA) (r : Api_NamesA), iter k (fun self q => static_MustOf_body K self q) q = some r → Cn Tryz.prog 79 [aggV q.enc] (aggV r.enc)) := by
 induction k with
 | zero => exact fun q r h => by cases h
 | succ k ih => exact fun q r h => static_MustOf_step K _ ih q r h
theorem static_MustOf_ok {K : Nat} {p0 : NodeA} {r : Api_NamesA} (h : static_MustOf K p0 = some r) : Cn Tryz.prog 79 [aggV p0.enc] (aggV r.enc) := (key_static_MustOf K) p0 r h
/-! ### isochrone/static.minus -/
def static_minus (K : Nat) (p0 : Api_NamesA) (p1 : Api_NamesA) : Option Api_NamesA := (static_not K p1).bind fun r1 =>
 (static_meet K p0 r1).bind fun r3 =>
 some r3
set_option maxHeartbeats 4000000 in
theorem static_minus_ok {K : Nat} {p0 : Api_NamesA} {p1 : Api_NamesA} {r : Api_NamesA} (h : static_minus K p0 p1 = some r) : Cn Tryz.prog 77 [aggV p0.enc, aggV p1.enc] (aggV r.enc) := by
 refine Cn.oz Tryz.func77 Tryz.call77 Tryz.ntmps77 Tryz.results77 fun hfit => ?_
 unfold static_minus at h
 refine AW.kr [] [0, 1] ?_
 refine AW.kr [0, 1, 2] [2, 3, 4] ?_
 refine pm h static_not_ok fun r1 hx2 h => ?_
 refine pm h static_meet_ok fun r3 hx4 h => ?_
 refine AW.ret ?_
 cases h; refine nz ?_; exact .same _
attribute [go_sem] toRow_acc rowOk_acc
theorem sorts : Sorts Tryz.prog 105 := ⟨Tryz.call105, fun blk off cap ss w h1 h2 h3 => Tryz.sort_Strings blk off cap ss w h1 h2 h3, fun p cap w => Tryz.sort_Strings_none p cap w⟩
/-! ### isochrone/static.primes -/
def static_primes (K : Nat) (p0 : Api_NamesA) : Option Api_NamesA := if p0.all then
  (static_everything K ).bind fun r2 =>
  some r2
 else
  ((iter (S := Int × (List ByteArray)) (R := (List ByteArray)) K (fun again (i4_0, i4_1) =>
   if (decide (i4_0 < (p0.list.length : Int))) then
    ((
     (idx p0.list i4_0).bind fun x11 =>
     (strAt x11 (IntKind.wrap .i64 ((x11.size : Int) - (1 : Int)))).bind fun c13 =>
     if ((c13.toNat : Int) != (39 : Int)) then
      (catO x11 (⟨#[39]⟩ : ByteArray)).bind fun s16 =>
      (appO 16 i4_1 [s16]).bind fun l18 =>
      some l18
     else
      some i4_1) : Option (List ByteArray)).bind (fun v9_0 =>
    again (IntKind.wrap .i64 (i4_0 + (1 : Int)), v9_0))
   else
    some i4_1) ((0 : Int), [])) : Option (List ByteArray)).bind (fun e5_0 =>
  (sortO e5_0).bind fun l20 =>
  (static_union K p0 (Api_NamesA.mk false l20)).bind fun r22 =>
  some r22)
set_option maxHeartbeats 4000000 in
theorem static_primes_ok {K : Nat} {p0 : Api_NamesA} {r : Api_NamesA} (h : static_primes K p0 = some r) : Cn Tryz.prog 76 [aggV p0.enc] (aggV r.enc) := by
 refine Cn.ofA mixed Tryz.func76 rfl Tryz.call76 Tryz.ntmps76 Tryz.results76 (by simp) (by simp only [go_sem, reduceEqDiff, reduceAdd, reduceSub, reduceMul, reduceLeDiff, reduceLT, Nat.reduceBEq, reduceIte]) fun hfit => ?_
 unfold static_primes at h
 refine AW.kp [] [0] ?_
 refine AW.op mixed ?_
 refine AW.kp [0, 1] [1, 2] ?_
 refine AW.one ?_
 refine AW.op mixed ?_
 refine AW.kp [0, 1] [1, 2, 7] ?_
 refine AW.ts p0.all (fun hb1 => ?_) (fun hb1 => ?_)
 ·have h := ifT hb1 h
  refine AW.op mixed ?_
  apply obindE h; intro r2 hx3 h
  have hc := nx (static_everything_ok (h := hx3))
  refine callP hc ?_
  refine AW.ret ?_
  obtain rfl := Option.some.inj h
  refine nz ?_
  exact .same _
 have h := ifF hb1 h
 refine AW.sk ?_
 refine AW.kp [0, 1] [1, 2] ?_
 refine AW.op mixed ?_
 refine AW.kp [0, 1] [1, 2, 3] ?_
 refine AW.one ?_
 refine AW.op mixed ?_
 refine AW.kp [0, 1] [1, 2, 3, 10, 11, 12] ?_
 refine obindE h fun oJ7 h hJ7 => ?_
 refine AW.join (S := (List ByteArray)) (fun e5_0 => [(1, .ptr 0 2 0 0), (2, .ptr 1 2 0 0), (3, accV 2 1 ((e5_0.map strV).map (·.map .d)))]) (fun e5_0 => [some ⟨2, [[.d (.val (.bool p0.all)), .d (slD strV p0.list)]]⟩, some ⟨2, [[.d (.val (.bool false)), .d (.val (.slice none 0 0))]]⟩, accO 1 ((e5_0.map strV).map (·.map .d))]) (fun x => x = oJ7) ?_ ?_
 ·refine AW.block ?_
  refine AW.iter (S := Int × (List ByteArray)) (fun (i4_0, i4_1) => [(1, .ptr 0 2 0 0), (2, .ptr 1 2 0 0), (3, accV 2 1 ((i4_1.map strV).map (·.map .d))), (10, .d (slD strV p0.list)), (11, .d (.val (.int .i64 (p0.list.length : Int)))), (12, .d (.val (.int .i64 i4_0)))]) (fun (i4_0, i4_1) => [some ⟨2, [[.d (.val (.bool p0.all)), .d (slD strV p0.list)]]⟩, some ⟨2, [[.d (.val (.bool false)), .d (.val (.slice none 0 0))]]⟩, accO 1 ((i4_1.map strV).map (·.map .d))]) [0, 1, 1002] h (by simp only [go_sem, reduceEqDiff, reduceAdd, reduceSub, reduceMul, reduceLeDiff, reduceLT, Nat.reduceBEq, reduceIte]) ?_
  rintro again ⟨i4_0, i4_1⟩ h
  try dsimp only at h
  refine AW.op mixed ?_
  refine AW.cu [0, 1, 2] [(1, .ptr 0 2 0 0), (2, .ptr 1 2 0 0), (3, accV 2 1 ((i4_1.map strV).map (·.map .d))), (10, .d (slD strV p0.list)), (11, .d (.val (.int .i64 (p0.list.length : Int)))), (12, .d (.val (.int .i64 i4_0))), (13, .d (.val (.bool (decide (i4_0 < (p0.list.length : Int))))))] [some ⟨2, [[.d (.val (.bool p0.all)), .d (slD strV p0.list)]]⟩, some ⟨2, [[.d (.val (.bool false)), .d (.val (.slice none 0 0))]]⟩, accO 1 ((i4_1.map strV).map (·.map .d))] ?_
  refine AW.one ?_
  refine AW.ts (decide (i4_0 < (p0.list.length : Int))) (fun hb8 => ?_) (fun hb8 => ?_)
  ·have h := ifT hb8 h
   refine AW.sk ?_
   refine AW.cu [0, 1, 2] [(1, .ptr 0 2 0 0), (2, .ptr 1 2 0 0), (3, accV 2 1 ((i4_1.map strV).map (·.map .d))), (10, .d (slD strV p0.list)), (11, .d (.val (.int .i64 (p0.list.length : Int)))), (12, .d (.val (.int .i64 i4_0)))] [some ⟨2, [[.d (.val (.bool p0.all)), .d (slD strV p0.list)]]⟩, some ⟨2, [[.d (.val (.bool false)), .d (.val (.slice none 0 0))]]⟩, accO 1 ((i4_1.map strV).map (·.map .d))] ?_
   refine AW.one ?_
   refine obindE h fun oJ10 h hJ10 => ?_
   refine AW.join (S := (List ByteArray)) (fun v9_0 => [(1, .ptr 0 2 0 0), (2, .ptr 1 2 0 0), (3, accV 2 1 ((v9_0.map strV).map (·.map .d))), (10, .d (slD strV p0.list)), (11, .d (.val (.int .i64 (p0.list.length : Int)))), (12, .d (.val (.int .i64 i4_0)))]) (fun v9_0 => [some ⟨2, [[.d (.val (.bool p0.all)), .d (slD strV p0.list)]]⟩, some ⟨2, [[.d (.val (.bool false)), .d (.val (.slice none 0 0))]]⟩, accO 1 ((v9_0.map strV).map (·.map .d))]) (fun x => x = oJ10) ?_ ?_
   ·skip
    refine AW.block ?_
    refine AW.one ?_
    refine AW.reg mixed (by kernel_rfl) ?_
    apply obindE h; intro x11 hx12 h
    try simp only [go_sem, reduceEqDiff, reduceAdd, reduceSub, reduceMul, reduceLeDiff, reduceLT, Nat.reduceBEq, reduceIte, (idx_some hx12).1, (idx_some hx12).2]
    refine AW.cut [0, 1, 2] [(1, .ptr 0 2 0 0), (2, .ptr 1 2 0 0), (3, accV 2 1 ((i4_1.map strV).map (·.map .d))), (5, .d (.val (.string x11))), (10, .d (slD strV p0.list)), (11, .d (.val (.int .i64 (p0.list.length : Int)))), (12, .d (.val (.int .i64 i4_0)))] [some ⟨2, [[.d (.val (.bool p0.all)), .d (slD strV p0.list)]]⟩, some ⟨2, [[.d (.val (.bool false)), .d (.val (.slice none 0 0))]]⟩, accO 1 ((i4_1.map strV).map (·.map .d))] (by simp only [go_sem, reduceEqDiff, reduceAdd, reduceSub, reduceMul, reduceLeDiff, reduceLT, Nat.reduceBEq, reduceIte, (idx_some hx12).1, (idx_some hx12).2]) ?_
    refine AW.one ?_
    refine AW.reg mixed (by kernel_rfl) ?_
    apply obindE h; intro c13 hx14 h
    try simp only [go_sem, reduceEqDiff, reduceAdd, reduceSub, reduceMul, reduceLeDiff, reduceLT, Nat.reduceBEq, reduceIte, hx14]
    refine AW.cut [0, 1, 2] [(1, .ptr 0 2 0 0), (2, .ptr 1 2 0 0), (3, accV 2 1 ((i4_1.map strV).map (·.map .d))), (5, .d (.val (.string x11))), (10, .d (slD strV p0.list)), (11, .d (.val (.int .i64 (p0.list.length : Int)))), (12, .d (.val (.int .i64 i4_0))), (21, .d (.val (.bool ((c13.toNat : Int) != (39 : Int)))))] [some ⟨2, [[.d (.val (.bool p0.all)), .d (slD strV p0.list)]]⟩, some ⟨2, [[.d (.val (.bool false)), .d (.val (.slice none 0 0))]]⟩, accO 1 ((i4_1.map strV).map (·.map .d))] (by simp only [go_sem, reduceEqDiff, reduceAdd, reduceSub, reduceMul, reduceLeDiff, reduceLT, Nat.reduceBEq, reduceIte, hx14]) ?_
    refine AW.ts ((c13.toNat : Int) != (39 : Int)) (fun hb15 => ?_) (fun hb15 => ?_)
    ·have h := ifT hb15 h
     refine AW.rg mixed ?_
     apply obindE h; intro s16 hx17 h
     try simp only [go_sem, reduceEqDiff, reduceAdd, reduceSub, reduceMul, reduceLeDiff, reduceLT, Nat.reduceBEq, reduceIte, bop_cat (P := Tryz.prog) hx17]
     apply obindE h; intro l18 hx19 h
     refine appG hx19 rfl (by simp only [go_sem, reduceEqDiff, reduceAdd, reduceSub, reduceMul, reduceLeDiff, reduceLT, Nat.reduceBEq, reduceIte, bop_cat (P := Tryz.prog) hx17]) (by simp only [go_sem, reduceEqDiff, reduceAdd, reduceSub, reduceMul, reduceLeDiff, reduceLT, Nat.reduceBEq, reduceIte, bop_cat (P := Tryz.prog) hx17]) (by simp only [go_sem, reduceEqDiff, reduceAdd, reduceSub, reduceMul, reduceLeDiff, reduceLT, Nat.reduceBEq, reduceIte, bop_cat (P := Tryz.prog) hx17]) (by simp) ?_
     try simp only [go_sem, reduceEqDiff, reduceAdd, reduceSub, reduceMul, reduceLeDiff, reduceLT, Nat.reduceBEq, reduceIte, bop_cat (P := Tryz.prog) hx17]
     refine JoinQ.mk l18 [0, 1, 7] (Option.some.inj h) (by simp only [go_sem, reduceEqDiff, reduceAdd, reduceSub, reduceMul, reduceLeDiff, reduceLT, Nat.reduceBEq, reduceIte, bop_cat (P := Tryz.prog) hx17])
    have h := ifF hb15 h
    refine AW.sk ?_
    exact JoinQ.ar i4_1 [0, 1, 2] (Option.some.inj h)
   rintro v9_0 rfl
   have h := hJ10
   try dsimp only [Out.fin] at h
   refine nz ?_
   refine AW.rg mixed ?_
   exact NextQ.ar (IntKind.wrap .i64 (i4_0 + (1 : Int)), v9_0) [0, 1, 2] h
  have h := ifF hb8 h
  refine AW.ex ?_
  exact JoinQ.ar i4_1 [0, 1, 2] (Option.some.inj h)
 rintro e5_0 rfl
 have h := hJ7
 try dsimp only [Out.fin] at h
 refine nz ?_
 refine AW.cu [0, 1, 2] [(1, .ptr 0 2 0 0), (2, .ptr 1 2 0 0), (3, accV 2 1 ((e5_0.map strV).map (·.map .d)))] [some ⟨2, [[.d (.val (.bool p0.all)), .d (slD strV p0.list)]]⟩, some ⟨2, [[.d (.val (.bool false)), .d (.val (.slice none 0 0))]]⟩, accO 1 ((e5_0.map strV).map (·.map .d))] ?_
 refine AW.op mixed ?_
 apply obindE h; intro l20 hx21 h
 refine callK_sort sorts hx21 (by simp only [go_sem, reduceEqDiff, reduceAdd, reduceSub, reduceMul, reduceLeDiff, reduceLT, Nat.reduceBEq, reduceIte]) ?_
 try simp only [go_sem, reduceEqDiff, reduceAdd, reduceSub, reduceMul, reduceLeDiff, reduceLT, Nat.reduceBEq, reduceIte, accV_sort hx21]
 refine AW.cut [0, 1, 2] [(1, .ptr 0 2 0 0), (2, .ptr 1 2 0 0), (3, accV 2 1 ((l20.map strV).map (·.map .d)))] [some ⟨2, [[.d (.val (.bool p0.all)), .d (slD strV p0.list)]]⟩, some ⟨2, [[.d (.val (.bool false)), .d (.val (.slice none 0 0))]]⟩, accO 1 ((l20.map strV).map (·.map .d))] (by simp only [go_sem, reduceEqDiff, reduceAdd, reduceSub, reduceMul, reduceLeDiff, reduceLT, Nat.reduceBEq, reduceIte, accV_sort hx21]) ?_
 refine AW.op mixed ?_
 apply obindE h; intro r22 hx23 h
 have hc := nx (static_union_ok (h := hx23))
 refine callK_seal [2] hc ⟨.same _, .aggL ⟨.same _, sealAcc (by simp only [go_sem, reduceEqDiff, reduceAdd, reduceSub, reduceMul, reduceLeDiff, reduceLT, Nat.reduceBEq, reduceIte]), trivial⟩, trivial⟩ (by simp only [go_sem, reduceEqDiff, reduceAdd, reduceSub, reduceMul, reduceLeDiff, reduceLT, Nat.reduceBEq, reduceIte]) (by simp only [go_sem, reduceEqDiff, reduceAdd, reduceSub, reduceMul, reduceLeDiff, reduceLT, Nat.reduceBEq, reduceIte]) ?_
 try simp only [go_sem, reduceEqDiff, reduceAdd, reduceSub, reduceMul, reduceLeDiff, reduceLT, Nat.reduceBEq, reduceIte]
 refine AW.ret ?_
 obtain rfl := Option.some.inj h
 refine nz ?_
 exact .same _
/-! ### isochrone/static.FreeOf -/
def static_FreeOf_body (K : Nat) (self36 : NodeA → Option Api_NamesA) (p0 : NodeA) : Option Api_NamesA := ((
  if (p0.op == (2 : Int)) then
   (static_one K p0.name).bind fun r4 =>
   outM (
    some r4)
  else
   if (p0.op == (3 : Int)) then
    (catO p0.name (⟨#[39]⟩ : ByteArray)).bind fun s7 =>
    (static_one K s7).bind fun r9 =>
    outM (
     some r9)
   else
    ((
     if (p0.op == (11 : Int)) then
      some (p0.op == (11 : Int))
     else
      if (p0.op == (38 : Int)) then
       some (p0.op == (38 : Int))
      else
       if (p0.op == (61 : Int)) then
        some (p0.op == (61 : Int))
       else
        if (p0.op == (62 : Int)) then
         some (p0.op == (62 : Int))
        else
         some (p0.op == (56 : Int))) : Option Bool).bind (fun v11_0 =>
    if v11_0 then
     (static_everything K ).bind fun r18 =>
     outM (
      some r18)
    else
     ((
      if (p0.op == (12 : Int)) then
       some (p0.op == (12 : Int))
      else
       some (p0.op == (39 : Int))) : Option Bool).bind (fun v20_0 =>
     if v20_0 then
      (idx p0.kids (0 : Int)).bind fun x24 =>
      (self36 (x24)).bind fun r26 =>
      (static_primes K r26).bind fun r28 =>
      outM (
       some r28)
     else
      ((
       if (p0.op == (33 : Int)) then
        some (p0.op == (33 : Int))
       else
        some (p0.op == (34 : Int))) : Option Bool).bind (fun v30_0 =>
      if v30_0 then
       (idx p0.kids (0 : Int)).bind fun x34 =>
       (self36 (x34)).bind fun r36 =>
       (static_one K p0.name).bind fun r38 =>
       (static_minus K r36 r38).bind fun r40 =>
       outM (
        some r40)
      else
       ((
        if (p0.op == (35 : Int)) then
         some (p0.op == (35 : Int))
        else
         if (p0.op == (36 : Int)) then
          some (p0.op == (36 : Int))
         else
          some (p0.op == (57 : Int))) : Option Bool).bind (fun v42_0 =>
       if v42_0 then
        (idx p0.kids (0 : Int)).bind fun x47 =>
        (self36 (x47)).bind fun r49 =>
        (idx p0.kids (1 : Int)).bind fun x51 =>
        (self36 (x51)).bind fun r53 =>
        (static_MustOf K x47).bind fun r55 =>
        (static_minus K r53 r55).bind fun r57 =>
        (static_union K r49 r57).bind fun r59 =>
        outM (
         some r59)
       else
        if (p0.op == (52 : Int)) then
         outM (
          some (Api_NamesA.mk false []))
        else
         if (p0.op == (55 : Int)) then
          (static_one K p0.name).bind fun r63 =>
          some (.go (r63.all, r63.list))
         else
          some (.go (false, []))))))) : Option (Out (Bool × (List ByteArray)) _)).bind (Out.fin fun (v1_0, v1_1) =>
 ((iter (S := Int × Api_NamesA) (R := Api_NamesA) K (fun again (i65_0, i65_1) =>
  if (decide (i65_0 < (p0.kids.length : Int))) then
   (idx p0.kids i65_0).bind fun x70 =>
   (self36 (x70)).bind fun r72 =>
   (static_union K i65_1 r72).bind fun r74 =>
   again (IntKind.wrap .i64 (i65_0 + (1 : Int)), r74)
  else
   some i65_1) ((0 : Int), (Api_NamesA.mk v1_0 v1_1))) : Option Api_NamesA).bind (fun e66_0 =>
 some e66_0))
set_option maxHeartbeats 4000000 in
theorem static_FreeOf_step (K : Nat) (self36 : NodeA → Option Api_NamesA) (hself36 : ∀ (q : NodeA) (r : Api_NamesA), self36 q = some r → Cn Tryz.prog 36 [aggV q.enc] (aggV r.enc)) (p0 : NodeA) (r : Api_NamesA) (h : static_FreeOf_body K self36 p0 = some r) : Cn Tryz.prog 36 [aggV p0.enc] (aggV r.enc) := by
 refine Cn.oz Tryz.func36 Tryz.call36 Tryz.ntmps36 Tryz.results36 fun hfit => ?_
 unfold static_FreeOf_body at h
 refine AW.kr [] [0] ?_
 refine AW.kr [0, 1] [1, 2] ?_
 refine AW.ks [0, 1, 2] [1, 2, 3] ?_
 refine AW.jo h (fun (v1_0, v1_1) => [(1, .ptr 0 6 0 0), (2, .ptr 1 2 0 0), (3, .ptr 2 2 0 0)]) (fun (v1_0, v1_1) => [vE p0.enc, some ⟨2, [[vB false, .d (.val (.slice none 0 0))]]⟩, some ⟨2, [[vB v1_0, vL strV v1_1]]⟩]) (fun oJ2 h hJ2 => ?_) fun ⟨v1_0, v1_1⟩ h => ?_
 ·refine AW.ro ?_
  refine AW.ks [0, 1, 2] [1, 2, 3, 7] ?_
  refine AW.block ?_
  refine AW.ro ?_
  refine AW.ks [0, 1, 2] [1, 2, 3, 7, 8] ?_
  refine AW.tt h (fun hb3 h => ?_) fun hb3 h => ?_
  ·refine AW.ro ?_
   refine cm h static_one_ok fun r4 hx5 h => ?_
   refine AW.ret ?_
   have h := up h hJ2
   cases h; refine nz ?_; exact .same _
  refine AW.ro ?_
  refine AW.ks [0, 1, 2] [1, 2, 3, 7, 13] ?_
  refine AW.tt h (fun hb6 h => ?_) fun hb6 h => ?_
  ·refine AW.ro ?_
   apply bE h; intro s7 hx8 h; have hx8 := bt hx8; refine ns ?_
   refine cm h static_one_ok fun r9 hx10 h => ?_
   refine AW.ret ?_
   have h := up h hJ2
   cases h; refine nz ?_; exact .same _
  refine AW.jn h (fun v11_0 => [(1, .ptr 0 6 0 0), (2, .ptr 1 2 0 0), (3, .ptr 2 2 0 0), (7, vI p0.op), (19, vB v11_0)]) (fun v11_0 => [vE p0.enc, some ⟨2, [[vB false, .d (.val (.slice none 0 0))]]⟩, some ⟨2, [[vB false, .d (.val (.slice none 0 0))]]⟩]) (fun oJ12 h => ?_) fun v11_0 h => ?_
  ·refine AW.ro ?_
   refine AW.ks [0, 1, 2] [1, 2, 3, 7, 19] ?_
   refine AW.tt h (fun hb13 h => ?_) fun hb13 h => ?_
   ·refine AW.sk ?_
    exact ja [0, 1, 2] h
   refine AW.ro ?_
   refine AW.ks [0, 1, 2] [1, 2, 3, 7, 19] ?_
   refine AW.tt h (fun hb14 h => ?_) fun hb14 h => ?_
   ·refine AW.sk ?_
    exact ja [0, 1, 2] h
   refine AW.ro ?_
   refine AW.ks [0, 1, 2] [1, 2, 3, 7, 19] ?_
   refine AW.tt h (fun hb15 h => ?_) fun hb15 h => ?_
   ·refine AW.sk ?_
    exact ja [0, 1, 2] h
   refine AW.ro ?_
   refine AW.ks [0, 1, 2] [1, 2, 3, 7, 19] ?_
   refine AW.tt h (fun hb16 h => ?_) fun hb16 h => ?_
   ·refine AW.sk ?_
    exact ja [0, 1, 2] h
   refine AW.rp ?_
   exact ja [0, 1, 2] h
  refine AW.tt h (fun hb17 h => ?_) fun hb17 h => ?_
  ·refine AW.ro ?_
   refine cm h static_everything_ok fun r18 hx19 h => ?_
   refine AW.ret ?_
   have h := up h hJ2
   cases h; refine nz ?_; exact .same _
  refine AW.jn h (fun v20_0 => [(1, .ptr 0 6 0 0), (2, .ptr 1 2 0 0), (3, .ptr 2 2 0 0), (7, vI p0.op), (26, vB v20_0)]) (fun v20_0 => [vE p0.enc, some ⟨2, [[vB false, .d (.val (.slice none 0 0))]]⟩, some ⟨2, [[vB false, .d (.val (.slice none 0 0))]]⟩]) (fun oJ21 h => ?_) fun v20_0 h => ?_
  ·refine AW.ro ?_
   refine AW.ks [0, 1, 2] [1, 2, 3, 7, 26] ?_
   refine AW.tt h (fun hb22 h => ?_) fun hb22 h => ?_
   ·refine AW.sk ?_
    exact ja [0, 1, 2] h
   refine AW.rp ?_
   exact ja [0, 1, 2] h
  refine AW.tt h (fun hb23 h => ?_) fun hb23 h => ?_
  ·refine AW.ro ?_
   refine bx h fun x24 h0 h1 h => ?_
   refine cm h (hself36 _ _) fun r26 hx27 h => ?_
   refine cm h static_primes_ok fun r28 hx29 h => ?_
   refine AW.ret ?_
   have h := up h hJ2
   cases h; refine nz ?_; exact .same _
  refine AW.jn h (fun v30_0 => [(1, .ptr 0 6 0 0), (2, .ptr 1 2 0 0), (3, .ptr 2 2 0 0), (7, vI p0.op), (35, vB v30_0)]) (fun v30_0 => [vE p0.enc, some ⟨2, [[vB false, .d (.val (.slice none 0 0))]]⟩, some ⟨2, [[vB false, .d (.val (.slice none 0 0))]]⟩]) (fun oJ31 h => ?_) fun v30_0 h => ?_
  ·refine AW.ro ?_
   refine AW.ks [0, 1, 2] [1, 2, 3, 7, 35] ?_
   refine AW.tt h (fun hb32 h => ?_) fun hb32 h => ?_
   ·refine AW.sk ?_
    exact ja [0, 1, 2] h
   refine AW.rp ?_
   exact ja [0, 1, 2] h
  refine AW.tt h (fun hb33 h => ?_) fun hb33 h => ?_
  ·refine AW.ro ?_
   refine bx h fun x34 h0 h1 h => ?_
   refine pm h (hself36 _ _) fun r36 hx37 h => ?_
   refine pm h static_one_ok fun r38 hx39 h => ?_
   refine pm h static_minus_ok fun r40 hx41 h => ?_
   refine AW.ret ?_
   have h := up h hJ2
   cases h; refine nz ?_; exact .same _
  refine AW.jn h (fun v42_0 => [(1, .ptr 0 6 0 0), (2, .ptr 1 2 0 0), (3, .ptr 2 2 0 0), (7, vI p0.op), (47, vB v42_0)]) (fun v42_0 => [vE p0.enc, some ⟨2, [[vB false, .d (.val (.slice none 0 0))]]⟩, some ⟨2, [[vB false, .d (.val (.slice none 0 0))]]⟩]) (fun oJ43 h => ?_) fun v42_0 h => ?_
  ·refine AW.ro ?_
   refine AW.ks [0, 1, 2] [1, 2, 3, 7, 47] ?_
   refine AW.tt h (fun hb44 h => ?_) fun hb44 h => ?_
   ·refine AW.sk ?_
    exact ja [0, 1, 2] h
   refine AW.ro ?_
   refine AW.ks [0, 1, 2] [1, 2, 3, 7, 47] ?_
   refine AW.tt h (fun hb45 h => ?_) fun hb45 h => ?_
   ·refine AW.sk ?_
    exact ja [0, 1, 2] h
   refine AW.rp ?_
   exact ja [0, 1, 2] h
  refine AW.tt h (fun hb46 h => ?_) fun hb46 h => ?_
  ·refine AW.ro ?_
   refine bx h fun x47 h0 h1 h => ?_
   refine pm h (hself36 _ _) fun r49 hx50 h => ?_
   refine bx h fun x51 h0 h1 h => ?_
   refine pm h (hself36 _ _) fun r53 hx54 h => ?_
   refine pm h static_MustOf_ok fun r55 hx56 h => ?_
   refine pm h static_minus_ok fun r57 hx58 h => ?_
   refine pm h static_union_ok fun r59 hx60 h => ?_
   refine AW.ret ?_
   have h := up h hJ2
   cases h; refine nz ?_; exact .same _
  refine AW.ro ?_
  refine AW.ks [0, 1, 2] [1, 2, 3, 7, 68] ?_
  refine AW.tt h (fun hb61 h => ?_) fun hb61 h => ?_
  ·refine AW.ro ?_
   refine AW.ret ?_
   have h := up h hJ2
   cases h; refine nz ?_; exact .aggL ⟨.same _, .nil, trivial⟩
  refine AW.ro ?_
  refine AW.ks [0, 1, 2] [1, 2, 3, 71] ?_
  refine AW.tk h (fun hb62 h => ?_) fun hb62 h => ?_
  ·refine AW.rp ?_
   refine cm h static_one_ok fun r63 hx64 h => ?_
   exact jo [0, 1, 2] h
  refine JoinQ.mkS (false, []) [0, 1, 2] [] [] [(2, ⟨2, [[.d (.val (.bool false)), .d (slD strV [])]]⟩)] (Option.some.inj h).symm (by simp only [go_sem, reduceEqDiff, reduceAdd, reduceSub, reduceMul, reduceLeDiff, reduceLT, Nat.reduceBEq, reduceIte, sealL_cons, sealL_nil]) (by simp only [go_sem, reduceEqDiff, reduceAdd, reduceSub, reduceMul, reduceLeDiff, reduceLT, Nat.reduceBEq, reduceIte, sealH_cons, sealH_nil]; exact ⟨⟨.same _, .nil, trivial⟩, trivial⟩) (by simp only [go_sem, reduceEqDiff, reduceAdd, reduceSub, reduceMul, reduceLeDiff, reduceLT, Nat.reduceBEq, reduceIte])
 try dsimp only at h
 refine AW.one ?_
 refine AW.ro ?_
 refine AW.ks [1, 2] [2, 3, 77, 78, 79] ?_
 refine AW.lm h (fun e66_0 => [(2, .ptr 0 2 0 0), (3, .ptr 1 2 0 0)]) (fun e66_0 => [some ⟨2, [[vB false, .d (.val (.slice none 0 0))]]⟩, vE e66_0.enc]) (fun (i65_0, i65_1) => [(2, .ptr 0 2 0 0), (3, .ptr 1 2 0 0), (77, vL NodeA.enc p0.kids), (78, vI (p0.kids.length : Int)), (79, vI i65_0)]) (fun (i65_0, i65_1) => [some ⟨2, [[vB false, .d (.val (.slice none 0 0))]]⟩, vE i65_1.enc]) [0, 1] (fun oJ68 again ⟨i65_0, i65_1⟩ h => ?_) fun e66_0 h => ?_
 ·try dsimp only at h
  refine AW.ro ?_
  refine AW.ks [0, 1] [2, 3, 77, 78, 79, 80] ?_
  refine AW.one ?_
  refine AW.tt h (fun hb69 h => ?_) fun hb69 h => ?_
  ·refine AW.sk ?_
   refine AW.ks [0, 1] [2, 3, 77, 78, 79] ?_
   refine AW.one ?_
   refine AW.block ?_
   refine AW.ro ?_
   refine bx h fun x70 h0 h1 h => ?_
   refine AW.ks [0, 1, 4] [2, 3, 5, 77, 78, 79] ?_
   refine AW.rp ?_
   refine pm h (hself36 _ _) fun r72 hx73 h => ?_
   refine pm h static_union_ok fun r74 hx75 h => ?_
   refine AW.ks [0, 1] [2, 3, 77, 78, 79] ?_
   refine AW.rp ?_
   exact na [0, 1] h
  refine AW.ex ?_
  exact ja [0, 1] h
 refine AW.kr [0, 1] [2, 3] ?_
 refine AW.ret ?_
 cases h; refine nz ?_; exact .same _
def static_FreeOf (K : Nat) (p0 : NodeA) : Option Api_NamesA := iter K (fun self q => static_FreeOf_body K self q) p0
theorem key_static_FreeOf {K : Nat} (k : Nat) : (∀ (q : NodeA) (r : Api_NamesA), iter k (fun self q => static_FreeOf_body K self q) q = some r → Cn Tryz.prog 36 [aggV q.enc] (aggV r.enc)) := by
 induction k with
 | zero => exact fun q r h => by cases h
 | succ k ih => exact fun q r h => static_FreeOf_step K _ ih q r h
theorem static_FreeOf_ok {K : Nat} {p0 : NodeA} {r : Api_NamesA} (h : static_FreeOf K p0 = some r) : Cn Tryz.prog 36 [aggV p0.enc] (aggV r.enc) := (key_static_FreeOf K) p0 r h
/-! ### sort.SearchStrings$1 -/
def sort_SearchStrings_1 (K : Nat) (p0 : Int) (p1 : List ByteArray) (p2 : ByteArray) : Option Bool := (idx p1 p0).bind fun x1 =>
 some (!Op.bytesLess x1.toList p2.toList)
set_option maxHeartbeats 4000000 in
theorem sort_SearchStrings_1_ok {K : Nat} {p0 : Int} {p1 : List ByteArray} {p2 : ByteArray} {r : Bool} (h : sort_SearchStrings_1 K p0 p1 p2 = some r) : Cn Tryz.prog 110 [.d (.val (.int .i64 p0)), .iptr [slD strV p1], .iptr [.val (.string p2)]] (.d (.val (.bool r))) := by
 refine Cn.oz Tryz.func110 Tryz.call110 Tryz.ntmps110 Tryz.results110 fun hfit => ?_
 unfold sort_SearchStrings_1 at h
 refine AW.kr [] [0, 1, 2] ?_
 refine AW.kr [] [0, 1, 2] ?_
 refine bx h fun x1 h0 h1 h => ?_
 refine AW.ret ?_
 cases h; refine nz ?_; exact .same _
/-! ### sort.Search -/
def sort_Search_sort_SearchStrings_1 (K : Nat) (p0 : Int) (p1 : List ByteArray) (p2 : ByteArray) : Option Int := ((iter (S := Int × Int) (R := Int) K (fun again (i1_0, i1_1) =>
  if (decide (i1_0 < i1_1)) then
   (must (decide ((0 : Int) ≤ (1 : Int)))).bind fun _ =>
   (sort_SearchStrings_1 K (IntKind.wrap .i64 (bShr .u64 (IntKind.wrap .u64 (IntKind.wrap .i64 (i1_0 + i1_1))) (1 : Int))) p1 p2).bind fun r7 =>
   if (!r7) then
    again (IntKind.wrap .i64 ((IntKind.wrap .i64 (bShr .u64 (IntKind.wrap .u64 (IntKind.wrap .i64 (i1_0 + i1_1))) (1 : Int))) + (1 : Int)), i1_1)
   else
    again (i1_0, IntKind.wrap .i64 (bShr .u64 (IntKind.wrap .u64 (IntKind.wrap .i64 (i1_0 + i1_1))) (1 : Int)))
  else
   some i1_0) ((0 : Int), p0)) : Option Int).bind (fun e2_0 =>
 some e2_0)
set_option maxHeartbeats 4000000 in
theorem sort_Search_sort_SearchStrings_1_ok {K : Nat} {p0 : Int} {p1 : List ByteArray} {p2 : ByteArray} {r : Int} (h : sort_Search_sort_SearchStrings_1 K p0 p1 p2 = some r) : Cn Tryz.prog 109 [.d (.val (.int .i64 p0)), .fn 110 [.iptr [slD strV p1], .iptr [.val (.string p2)]]] (.d (.val (.int .i64 r))) := by
 have q0 := fun k z => cv_int (k' := k) (z := z) Tryz.underlying136 Tryz.underlying3
 have q1 := fun k z => cv_int (k' := k) (z := z) Tryz.underlying3 Tryz.underlying136
 refine Cn.oz Tryz.func109 Tryz.call109 Tryz.ntmps109 Tryz.results109 fun hfit => ?_
 unfold sort_Search_sort_SearchStrings_1 at h
 refine AW.kr [] [0, 1] ?_
 refine AW.kr [] [0, 1] ?_
 refine AW.ks [] [1, 5, 6] ?_
 refine AW.ln h (fun e2_0 => [(5, vI e2_0)]) (fun e2_0 => []) (fun (i1_0, i1_1) => [(1, .fn 110 [.iptr [slD strV p1], .iptr [.val (.string p2)]]), (5, vI i1_0), (6, vI i1_1)]) (fun (i1_0, i1_1) => []) [] (fun oJ4 again ⟨i1_0, i1_1⟩ h => ?_) fun e2_0 h => ?_
 ·try dsimp only at h
  refine AW.one ?_
  refine AW.ro ?_
  refine AW.ks [] [1, 5, 6, 11] ?_
  refine AW.tt h (fun hb5 h => ?_) fun hb5 h => ?_
  ·refine AW.sk ?_
   refine AW.ks [] [1, 5, 6] ?_
   refine AW.block ?_
   refine AW.ro ?_
   apply bE h; intro _ hx6 h; have hx6 := ms hx6; refine ns ?_
   refine AW.kr [] [1, 5, 6, 7] ?_
   refine cm h sort_SearchStrings_1_ok fun r7 hx8 h => ?_
   refine AW.ks [] [1, 5, 6, 7, 21] ?_
   refine AW.tt h (fun hb9 h => ?_) fun hb9 h => ?_
   ·refine AW.rp ?_
    exact na [] h
   refine AW.rp ?_
   exact na [] h
  refine AW.ex ?_
  exact ja [] h
 refine AW.kr [] [5] ?_
 refine AW.ret ?_
 cases h; refine nz ?_; exact .same _
/-! ### sort.SearchStrings -/
def sort_SearchStrings (K : Nat) (p0 : List ByteArray) (p1 : ByteArray) : Option Int := (sort_Search_sort_SearchStrings_1 K (p0.length : Int) p0 p1).bind fun r1 =>
 some r1
set_option maxHeartbeats 4000000 in
theorem sort_SearchStrings_ok {K : Nat} {p0 : List ByteArray} {p1 : ByteArray} {r : Int} (h : sort_SearchStrings K p0 p1 = some r) : Cn Tryz.prog 81 [.d (slD strV p0), .d (.val (.string p1))] (.d (.val (.int .i64 r))) := by
 refine Cn.oz Tryz.func81 Tryz.call81 Tryz.ntmps81 Tryz.results81 fun hfit => ?_
 unfold sort_SearchStrings at h
 refine AW.kr [] [0, 1] ?_
 refine AW.kr [0, 1] [2, 3] ?_
 refine cl h sort_Search_sort_SearchStrings_1_ok (fun r1 hx2 h => ?_) (hs := by exact ⟨.same _, .fnL ⟨sealPtr (by simp only [go_sem, reduceEqDiff, reduceAdd, reduceSub, reduceMul, reduceLeDiff, reduceLT, Nat.reduceBEq, reduceIte]), sealPtr (by simp only [go_sem, reduceEqDiff, reduceAdd, reduceSub, reduceMul, reduceLeDiff, reduceLT, Nat.reduceBEq, reduceIte]), trivial⟩, trivial⟩)
 refine AW.ret ?_
 cases h; refine nz ?_; exact .same _
/-! ### isochrone/static.Has -/
def static_Has (K : Nat) (p0 : Api_NamesA) (p1 : ByteArray) : Option Bool := (sort_SearchStrings K p0.list p1).bind fun r1 =>
 if (decide (r1 < (p0.list.length : Int))) then
  (idx p0.list r1).bind fun x4 =>
  some (!((x4.toList == p1.toList) == p0.all))
 else
  some (!(false == p0.all))
set_option maxHeartbeats 4000000 in
theorem static_Has_ok {K : Nat} {p0 : Api_NamesA} {p1 : ByteArray} {r : Bool} (h : static_Has K p0 p1 = some r) : Cn Tryz.prog 38 [aggV p0.enc, .d (.val (.string p1))] (.d (.val (.bool r))) := by
 refine Cn.oz Tryz.func38 Tryz.call38 Tryz.ntmps38 Tryz.results38 fun hfit => ?_
 unfold static_Has at h
 refine AW.kr [] [0, 1] ?_
 refine AW.kr [0] [1, 2] ?_
 refine cm h sort_SearchStrings_ok fun r1 hx2 h => ?_
 refine AW.kr [0] [1, 2, 5] ?_
 refine sK h (fun hb3 h => ?_) fun hb3 h => ?_
 ·refine bx h fun x4 h0 h1 h => ?_
  refine AW.ret ?_
  cases h; refine nz ?_; exact .same _
 refine AW.ret ?_
 cases h; refine nz ?_; exact .same _
/-! ### isochrone/tree.root -/
def tree_root (K : Nat) (p0 : NodeA) : Option Int := (tree_Sort K p0.op).bind fun r1 =>
 ((
  ((
   if (r1 == (0 : Int)) then
    some true
   else
    some (r1 == (4 : Int))) : Option Bool).bind (fun v5_0 =>
  if v5_0 then
   outM (
    some (80 : Int))
  else
   some (.go ()))) : Option (Out Unit _)).bind (Out.fin fun _ =>
 (tree_Check K p0 r1).bind fun r9 =>
 some r9)
set_option maxHeartbeats 4000000 in
theorem tree_root_ok {K : Nat} {p0 : NodeA} {r : Int} (h : tree_root K p0 = some r) : Cn Tryz.prog 72 [aggV p0.enc] (.d (.val (.int .i64 r))) := by
 refine Cn.oz Tryz.func72 Tryz.call72 Tryz.ntmps72 Tryz.results72 fun hfit => ?_
 unfold tree_root at h
 refine AW.kr [] [0] ?_
 refine AW.kr [0] [1] ?_
 refine cm h tree_Sort_ok fun r1 hx2 h => ?_
 refine AW.ks [0] [1, 3] ?_
 refine AW.jo h (fun _ => [(1, .ptr 0 6 0 0), (3, vI r1)]) (fun _ => [vE p0.enc]) (fun oJ4 h hJ4 => ?_) fun ⟨⟩ h => ?_
 ·refine AW.jn h (fun v5_0 => [(1, .ptr 0 6 0 0), (3, vI r1), (12, vB v5_0)]) (fun v5_0 => [vE p0.enc]) (fun oJ6 h => ?_) fun v5_0 h => ?_
  ·refine AW.rp ?_
   refine sK h (fun hb7 h => ?_) fun hb7 h => ?_
   ·exact ja [0] h
   exact ja [0] h
  refine AW.tk h (fun hb8 h => ?_) fun hb8 h => ?_
  ·refine AW.ro ?_
   refine AW.ret ?_
   have h := up h hJ4
   cases h; refine nz ?_; exact .same _
  exact jo [0] h
 refine AW.ro ?_
 refine cm h tree_Check_ok fun r9 hx10 h => ?_
 refine AW.ret ?_
 cases h; refine nz ?_; exact .same _
/-! ### isochrone/tree.step -/
def tree_step (K : Nat) (p0 : NodeA) (p1 : List Int) : Option (NodeA × Bool) := ((iter (S := Int × NodeA) (R := Out NodeA _) K (fun again (i1_0, i1_1) =>
  if (decide (i1_0 < (p1.length : Int))) then
   ((
    (idx p1 i1_0).bind fun x8 =>
    ((
     ((
      if (decide (x8 < (0 : Int))) then
       some true
      else
       some (decide ((i1_1.kids.length : Int) ≤ x8))) : Option Bool).bind (fun v12_0 =>
     if v12_0 then
      outM (
       outM (
        outM (
         some ((NodeA.mk (0 : Int) (⟨#[]⟩ : ByteArray) (RatA.mk false [] []) []), false))))
     else
      some (.go ()))) : Option (Out Unit _)).bind (Out.fin fun _ =>
    (idx i1_1.kids x8).bind fun x16 =>
    some (.go x16))) : Option (Out NodeA _)).bind (Out.fin fun v6_0 =>
   again (IntKind.wrap .i64 (i1_0 + (1 : Int)), v6_0))
  else
   some (.go i1_1)) ((0 : Int), p0)) : Option (Out NodeA _)).bind (Out.fin fun e2_0 =>
 some (e2_0, true))
set_option maxHeartbeats 4000000 in
theorem tree_step_ok {K : Nat} {p0 : NodeA} {p1 : List Int} {r : NodeA × Bool} (h : tree_step K p0 p1 = some r) : Cn Tryz.prog 73 [aggV p0.enc, .d (slD i64V p1)] (.tup [aggV r.1.enc, .d (.val (.bool r.2))]) := by
 refine Cn.oz Tryz.func73 Tryz.call73 Tryz.ntmps73 Tryz.results73 fun hfit => ?_
 unfold tree_step at h
 refine AW.kr [] [0, 1] ?_
 refine AW.ks [0, 1] [1, 2, 4] ?_
 refine AW.one ?_
 refine AW.ro ?_
 refine AW.ks [0, 1] [2, 4, 8, 9, 10] ?_
 refine AW.lp h (fun e2_0 => [(2, .ptr 0 6 0 0), (4, .ptr 1 6 0 0)]) (fun e2_0 => [vE e2_0.enc, some ⟨6, [[vI (0 : Int), vS (⟨#[]⟩ : ByteArray), vB false, .d (.val (.slice none 0 0)), .d (.val (.slice none 0 0)), .d (.val (.slice none 0 0))]]⟩]) (fun (i1_0, i1_1) => [(2, .ptr 0 6 0 0), (4, .ptr 1 6 0 0), (8, vL i64V p1), (9, vI (p1.length : Int)), (10, vI i1_0)]) (fun (i1_0, i1_1) => [vE i1_1.enc, some ⟨6, [[vI (0 : Int), vS (⟨#[]⟩ : ByteArray), vB false, .d (.val (.slice none 0 0)), .d (.val (.slice none 0 0)), .d (.val (.slice none 0 0))]]⟩]) [0, 1] (fun oJ4 hJ4 again ⟨i1_0, i1_1⟩ h => ?_) fun e2_0 h => ?_
 ·try dsimp only at h
  refine AW.ro ?_
  refine AW.ks [0, 1] [2, 4, 8, 9, 10, 11] ?_
  refine AW.one ?_
  refine AW.tt h (fun hb5 h => ?_) fun hb5 h => ?_
  ·refine AW.sk ?_
   refine AW.ks [0, 1] [2, 4, 8, 9, 10] ?_
   refine AW.jo h (fun v6_0 => [(2, .ptr 0 6 0 0), (4, .ptr 1 6 0 0), (8, vL i64V p1), (9, vI (p1.length : Int)), (10, vI i1_0)]) (fun v6_0 => [vE v6_0.enc, some ⟨6, [[vI (0 : Int), vS (⟨#[]⟩ : ByteArray), vB false, .d (.val (.slice none 0 0)), .d (.val (.slice none 0 0)), .d (.val (.slice none 0 0))]]⟩]) (fun oJ7 h hJ7 => ?_) fun v6_0 h => ?_
   ·refine AW.block ?_
    refine AW.ro ?_
    refine bx h fun x8 h0 h1 h => ?_
    refine AW.ks [0, 1] [2, 4, 7, 8, 9, 10] ?_
    refine AW.jo h (fun _ => [(2, .ptr 0 6 0 0), (4, .ptr 1 6 0 0), (7, vI x8), (8, vL i64V p1), (9, vI (p1.length : Int)), (10, vI i1_0)]) (fun _ => [vE i1_1.enc, some ⟨6, [[vI (0 : Int), vS (⟨#[]⟩ : ByteArray), vB false, .d (.val (.slice none 0 0)), .d (.val (.slice none 0 0)), .d (.val (.slice none 0 0))]]⟩]) (fun oJ11 h hJ11 => ?_) fun ⟨⟩ h => ?_
    ·refine AW.jn h (fun v12_0 => [(2, .ptr 0 6 0 0), (4, .ptr 1 6 0 0), (7, vI x8), (8, vL i64V p1), (9, vI (p1.length : Int)), (10, vI i1_0), (22, vB v12_0)]) (fun v12_0 => [vE i1_1.enc, some ⟨6, [[vI (0 : Int), vS (⟨#[]⟩ : ByteArray), vB false, .d (.val (.slice none 0 0)), .d (.val (.slice none 0 0)), .d (.val (.slice none 0 0))]]⟩]) (fun oJ13 h => ?_) fun v12_0 h => ?_
     ·refine AW.rp ?_
      refine sK h (fun hb14 h => ?_) fun hb14 h => ?_
      ·exact ja [0, 1] h
      exact ja [0, 1] h
     refine AW.tk h (fun hb15 h => ?_) fun hb15 h => ?_
     ·refine AW.ro ?_
      refine AW.ret ?_
      have h := up h hJ11
      have h := up h hJ7
      have h := up h hJ4
      cases h; refine nz ?_; exact .tupL ⟨.aggL ⟨.same _, .same _, .same _, .nil, .nil, .nil, trivial⟩, .same _, trivial⟩
     exact jo [0, 1] h
    refine AW.rp ?_
    refine bx h fun x16 h0 h1 h => ?_
    exact jo [0, 1] h
   refine AW.rp ?_
   exact na [0, 1] h
  refine AW.ex ?_
  exact jo [0, 1] h
 refine AW.kr [0, 1] [2, 4] ?_
 refine AW.ret ?_
 cases h; refine nz ?_; exact .same _
/-! ### isochrone/tree.At -/
def tree_At (K : Nat) (p0 : NodeA) (p1 : List Int) : Option (NodeA × Int) := (tree_root K p0).bind fun r1 =>
 if (r1 != (0 : Int)) then
  some ((NodeA.mk (0 : Int) (⟨#[]⟩ : ByteArray) (RatA.mk false [] []) []), r1)
 else
  (tree_step K p0 p1).bind fun r4 =>
  if (!r4.2) then
   some ((NodeA.mk (0 : Int) (⟨#[]⟩ : ByteArray) (RatA.mk false [] []) []), (1 : Int))
  else
   (tree_Copy K r4.1).bind fun r7 =>
   some (r7, (0 : Int))
set_option maxHeartbeats 4000000 in
theorem tree_At_own {K : Nat} {p0 : NodeA} {p1 : List Int} {r : NodeA × Int} (h : tree_At K p0 p1 = some r) : Co Tryz.prog 34 [aggV p0.enc, .d (slD i64V p1)] (.tup [.agg [.d (.val (.int .i64 r.1.op)), .d (.val (.string r.1.name)), .d (.val (.bool r.1.num.neg)), .d (slD u32V r.1.num.num), .d (slD u32V r.1.num.den), accV 0 6 ((r.1.kids.map NodeA.enc).map (·.map .d))], .d (.val (.int .i64 r.2))]) (accO 6 ((r.1.kids.map NodeA.enc).map (·.map .d))) := by
 refine Co.ofA mixed Tryz.func34 rfl Tryz.call34 Tryz.ntmps34 Tryz.results34 (by simp) datO_acc (by simp only [go_sem, reduceEqDiff, reduceAdd, reduceSub, reduceMul, reduceLeDiff, reduceLT, Nat.reduceBEq, reduceIte]) fun hfit => ?_
 unfold tree_At at h
 refine AW.kr [] [0, 1] ?_
 refine AW.ks [0, 1] [1, 2, 4] ?_
 refine AW.one ?_
 refine AW.ro ?_
 refine cm h tree_root_ok fun r1 hx2 h => ?_
 refine AW.kr [0, 1] [1, 2, 4, 6] ?_
 refine AW.ks [0, 1] [1, 2, 4, 6, 12] ?_
 refine AW.tk h (fun hb3 h => ?_) fun hb3 h => ?_
 ·refine AW.ro ?_
  refine AW.ret ?_
  cases h; refine nz ?_; refine OwnRes.mk 6 (nz ?_) (by simp only [go_sem, reduceEqDiff, reduceAdd, reduceSub, reduceMul, reduceLeDiff, reduceLT, Nat.reduceBEq, reduceIte]); exact .tupL ⟨.aggL ⟨.same _, .same _, .same _, .nil, .nil, .same _, trivial⟩, .same _, trivial⟩
 refine AW.kr [0, 1] [1, 2, 4] ?_
 refine cm h tree_step_ok fun r4 hx5 h => ?_
 refine AW.ks [1, 8] [4, 7, 8] ?_
 refine AW.one ?_
 refine AW.ro ?_
 refine AW.ks [0, 1] [4, 7, 22] ?_
 refine AW.tk h (fun hb6 h => ?_) fun hb6 h => ?_
 ·refine AW.ro ?_
  refine AW.ret ?_
  cases h; refine nz ?_; refine OwnRes.mk 5 (nz ?_) (by simp only [go_sem, reduceEqDiff, reduceAdd, reduceSub, reduceMul, reduceLeDiff, reduceLT, Nat.reduceBEq, reduceIte]); exact .tupL ⟨.aggL ⟨.same _, .same _, .same _, .nil, .nil, .same _, trivial⟩, .same _, trivial⟩
 refine AW.kr [0, 1] [4, 7] ?_
 apply bE h; intro r7 hx8 h
 have hc := nx (tree_Copy_own (h := hx8))
 refine callK_own hc (by simp only [go_sem, reduceEqDiff, reduceAdd, reduceSub, reduceMul, reduceLeDiff, reduceLT, Nat.reduceBEq, reduceIte]) ?_
 refine ns ?_
 refine AW.ret ?_
 cases h; refine nz ?_; refine OwnRes.mk 3 (nz ?_) (by simp only [go_sem, reduceEqDiff, reduceAdd, reduceSub, reduceMul, reduceLeDiff, reduceLT, Nat.reduceBEq, reduceIte]); exact .same _
/-! ### isochrone/tree.put -/
def tree_put_body (K : Nat) (self83 : (NodeA × (List Int) × NodeA) → Option NodeA) (p0 : NodeA) (p1 : List Int) (p2 : NodeA) : Option NodeA := if ((p1.length : Int) == (0 : Int)) then
  (tree_Copy K p2).bind fun r2 =>
  some r2
 else
  ((iter (S := Int × (List NodeA)) (R := (List NodeA)) K (fun again (i4_0, i4_1) =>
   if (decide (i4_0 < (p0.kids.length : Int))) then
    ((
     (idx p0.kids i4_0).bind fun x11 =>
     ((
      (idx p1 (0 : Int)).bind fun x15 =>
      if (i4_0 == x15) then
       (cutL p1 (some (1 : Int)) none).bind fun s18 =>
       (self83 (x11, s18, p2)).bind fun r20 =>
       some r20
      else
       (tree_Copy K x11).bind fun r22 =>
       some r22) : Option NodeA).bind (fun v13_0 =>
     (appO 104 i4_1 [v13_0]).bind fun l24 =>
     some l24)) : Option (List NodeA)).bind (fun v9_0 =>
    again (IntKind.wrap .i64 (i4_0 + (1 : Int)), v9_0))
   else
    some i4_1) ((0 : Int), [])) : Option (List NodeA)).bind (fun e5_0 =>
  (tree_Copy K (NodeA.mk (0 : Int) (⟨#[]⟩ : ByteArray) p0.num [])).bind fun r26 =>
  some (NodeA.mk p0.op p0.name r26.num e5_0))
set_option maxHeartbeats 4000000 in
theorem tree_put_step (K : Nat) (self83 : (NodeA × (List Int) × NodeA) → Option NodeA) (hself83 : ∀ (q : NodeA × (List Int) × NodeA) (r : NodeA), self83 q = some r → Cn Tryz.prog 83 [aggV q.1.enc, .d (slD i64V q.2.1), aggV q.2.2.enc] (aggV r.enc)) (p0 : NodeA) (p1 : List Int) (p2 : NodeA) (r : NodeA) (h : tree_put_body K self83 p0 p1 p2 = some r) : Cn Tryz.prog 83 [aggV p0.enc, .d (slD i64V p1), aggV p2.enc] (aggV r.enc) := by
 refine Cn.oz Tryz.func83 Tryz.call83 Tryz.ntmps83 Tryz.results83 fun hfit => ?_
 unfold tree_put_body at h
 refine AW.kr [] [0, 1, 2] ?_
 refine AW.ks [0, 1, 2] [1, 3, 5, 6] ?_
 refine AW.one ?_
 refine AW.ro ?_
 refine AW.ks [0, 1, 2] [1, 3, 5, 6, 13] ?_
 refine AW.tk h (fun hb1 h => ?_) fun hb1 h => ?_
 ·refine AW.ro ?_
  refine cm h tree_Copy_ok fun r2 hx3 h => ?_
  refine AW.ret ?_
  cases h; refine nz ?_; exact .same _
 refine AW.kr [0, 1, 2] [1, 3, 5, 6] ?_
 refine AW.kr [0, 1, 2, 4] [1, 3, 5, 6, 7] ?_
 refine AW.ks [0, 1, 2, 3] [1, 3, 5, 6, 7] ?_
 refine AW.one ?_
 refine AW.ro ?_
 refine AW.ks [0, 1, 2, 3] [1, 3, 5, 6, 7, 19, 20, 21] ?_
 refine AW.lm h (fun e5_0 => [(3, .ptr 0 6 0 0), (6, .ptr 1 6 0 0), (7, .ptr 2 6 0 0)]) (fun e5_0 => [vE p0.enc, some ⟨6, [[vI (0 : Int), vS (⟨#[]⟩ : ByteArray), vB false, .d (.val (.slice none 0 0)), .d (.val (.slice none 0 0)), .d (.val (.slice none 0 0))]]⟩, some ⟨6, [[vI p0.op, vS p0.name, vB p0.num.neg, vL u32V p0.num.num, vL u32V p0.num.den, accV 3 6 ((e5_0.map NodeA.enc).map (·.map .d))]]⟩, accO 6 ((e5_0.map NodeA.enc).map (·.map .d))]) (fun (i4_0, i4_1) => [(1, vL i64V p1), (3, .ptr 0 6 0 0), (5, .ptr 1 6 0 0), (6, .ptr 2 6 0 0), (7, .ptr 3 6 0 0), (19, vL NodeA.enc p0.kids), (20, vI (p0.kids.length : Int)), (21, vI i4_0)]) (fun (i4_0, i4_1) => [vE p0.enc, vE p2.enc, some ⟨6, [[vI (0 : Int), vS (⟨#[]⟩ : ByteArray), vB false, .d (.val (.slice none 0 0)), .d (.val (.slice none 0 0)), .d (.val (.slice none 0 0))]]⟩, some ⟨6, [[vI p0.op, vS p0.name, vB p0.num.neg, vL u32V p0.num.num, vL u32V p0.num.den, accV 4 6 ((i4_1.map NodeA.enc).map (·.map .d))]]⟩, accO 6 ((i4_1.map NodeA.enc).map (·.map .d))]) [0, 1, 2, 3, 1004] (fun oJ7 again ⟨i4_0, i4_1⟩ h => ?_) fun e5_0 h => ?_
 ·try dsimp only at h
  refine AW.ro ?_
  refine AW.ks [0, 1, 2, 3, 4] [1, 3, 5, 6, 7, 19, 20, 21, 22] ?_
  refine AW.one ?_
  refine AW.tt h (fun hb8 h => ?_) fun hb8 h => ?_
  ·refine AW.sk ?_
   refine AW.ks [0, 1, 2, 3, 4] [1, 3, 5, 6, 7, 19, 20, 21] ?_
   refine AW.jn h (fun v9_0 => [(1, vL i64V p1), (3, .ptr 0 6 0 0), (5, .ptr 1 6 0 0), (6, .ptr 2 6 0 0), (7, .ptr 3 6 0 0), (19, vL NodeA.enc p0.kids), (20, vI (p0.kids.length : Int)), (21, vI i4_0)]) (fun v9_0 => [vE p0.enc, vE p2.enc, some ⟨6, [[vI (0 : Int), vS (⟨#[]⟩ : ByteArray), vB false, .d (.val (.slice none 0 0)), .d (.val (.slice none 0 0)), .d (.val (.slice none 0 0))]]⟩, some ⟨6, [[vI p0.op, vS p0.name, vB p0.num.neg, vL u32V p0.num.num, vL u32V p0.num.den, accV 4 6 ((v9_0.map NodeA.enc).map (·.map .d))]]⟩, accO 6 ((v9_0.map NodeA.enc).map (·.map .d))]) (fun oJ10 h => ?_) fun v9_0 h => ?_
   ·refine AW.block ?_
    refine AW.ro ?_
    refine bx h fun x11 h0 h1 h => ?_
    refine AW.kr [0, 1, 2, 3, 4, 8] [1, 3, 5, 6, 7, 8, 9, 19, 20, 21] ?_
    refine AW.ks [0, 1, 2, 3, 4, 5, 6] [1, 3, 5, 6, 7, 8, 9, 10, 19, 20, 21] ?_
    refine AW.jn h (fun v13_0 => [(1, vL i64V p1), (3, .ptr 0 6 0 0), (5, .ptr 1 6 0 0), (6, .ptr 2 6 0 0), (7, .ptr 3 6 0 0), (10, .ptr 4 6 0 0), (19, vL NodeA.enc p0.kids), (20, vI (p0.kids.length : Int)), (21, vI i4_0)]) (fun v13_0 => [vE p0.enc, vE p2.enc, some ⟨6, [[vI (0 : Int), vS (⟨#[]⟩ : ByteArray), vB false, .d (.val (.slice none 0 0)), .d (.val (.slice none 0 0)), .d (.val (.slice none 0 0))]]⟩, some ⟨6, [[vI p0.op, vS p0.name, vB p0.num.neg, vL u32V p0.num.num, vL u32V p0.num.den, accV 5 6 ((i4_1.map NodeA.enc).map (·.map .d))]]⟩, vE v13_0.enc, accO 6 ((i4_1.map NodeA.enc).map (·.map .d))]) (fun oJ14 h => ?_) fun v13_0 h => ?_
    ·refine AW.ro ?_
     refine bx h fun x15 h0 h1 h => ?_
     refine AW.ks [0, 1, 2, 3, 4, 5, 6] [1, 3, 5, 6, 7, 9, 10, 19, 20, 21, 30] ?_
     refine AW.tt h (fun hb17 h => ?_) fun hb17 h => ?_
     ·refine AW.rp ?_
      refine bb h fun s18 hx19 h => ?_
      refine pm h (hself83 _ _) fun r20 hx21 h => ?_
      exact ja [0, 1, 2, 3, 6, 4] h
     refine AW.rp ?_
     refine cm h tree_Copy_ok fun r22 hx23 h => ?_
     exact ja [0, 1, 2, 3, 6, 4] h
    refine AW.rp ?_
    refine ag (f := NodeA.enc) h fun l24 hx25 h => ?_
    exact ja [0, 1, 2, 3, 10] h
   refine AW.rp ?_
   exact na [0, 1, 2, 3, 4] h
  refine AW.ex ?_
  exact ja [0, 2, 3, 4] h
 refine AW.kr [0, 1, 2, 3] [3, 6, 7] ?_
 refine cv h tree_Copy_ok (fun r26 hx27 h => ?_) (hs := by exact ⟨.aggL ⟨.same _, .same _, .same _, .same _, .same _, .nil, trivial⟩, trivial⟩)
 refine AW.kr [1, 2, 3] [6, 7] ?_
 refine AW.ret ?_
 cases h; refine nz ?_; exact .aggL ⟨.same _, .same _, .same _, .same _, .same _, sealAcc (by simp only [go_sem, reduceEqDiff, reduceAdd, reduceSub, reduceMul, reduceLeDiff, reduceLT, Nat.reduceBEq, reduceIte]), trivial⟩
def tree_put (K : Nat) (p0 : NodeA) (p1 : List Int) (p2 : NodeA) : Option NodeA := iter K (fun self q => tree_put_body K self q.1 q.2.1 q.2.2) (p0, p1, p2)
theorem key_tree_put {K : Nat} (k : Nat) : (∀ (q : NodeA × (List Int) × NodeA) (r : NodeA), iter k (fun self q => tree_put_body K self q.1 q.2.1 q.2.2) q = some r → Cn Tryz.prog 83 [aggV q.1.enc, .d (slD i64V q.2.1), aggV q.2.2.enc] (aggV r.enc)) := by
 induction k with
 | zero => exact fun q r h => by cases h
 | succ k ih => exact fun q r h => tree_put_step K _ ih q.1 q.2.1 q.2.2 r h
theorem tree_put_ok {K : Nat} {p0 : NodeA} {p1 : List Int} {p2 : NodeA} {r : NodeA} (h : tree_put K p0 p1 p2 = some r) : Cn Tryz.prog 83 [aggV p0.enc, .d (slD i64V p1), aggV p2.enc] (aggV r.enc) := (key_tree_put K) (p0, p1, p2) r h
/-! ### isochrone/tree.Replace -/
def tree_Replace (K : Nat) (p0 : NodeA) (p1 : List Int) (p2 : NodeA) : Option (NodeA × Int) := (tree_root K p0).bind fun r1 =>
 if (r1 != (0 : Int)) then
  some ((NodeA.mk (0 : Int) (⟨#[]⟩ : ByteArray) (RatA.mk false [] []) []), r1)
 else
  (tree_step K p0 p1).bind fun r4 =>
  if (!r4.2) then
   some ((NodeA.mk (0 : Int) (⟨#[]⟩ : ByteArray) (RatA.mk false [] []) []), (1 : Int))
  else
   ((
    ((
     (tree_Sort K r4.1.op).bind fun r11 =>
     (tree_Sort K p2.op).bind fun r13 =>
     if (r11 != r13) then
      some true
     else
      (tree_Sort K p2.op).bind fun r16 =>
      some (r16 == (0 : Int))) : Option Bool).bind (fun v9_0 =>
    if v9_0 then
     outM (
      some ((NodeA.mk (0 : Int) (⟨#[]⟩ : ByteArray) (RatA.mk false [] []) []), (80 : Int)))
    else
     some (.go ()))) : Option (Out Unit _)).bind (Out.fin fun _ =>
   (tree_within K p2 (4000 : Int) (60 : Int)).bind fun r19 =>
   if (!r19.1) then
    some ((NodeA.mk (0 : Int) (⟨#[]⟩ : ByteArray) (RatA.mk false [] []) []), (2 : Int))
   else
    (tree_put K p0 p1 p2).bind fun r22 =>
    (tree_Sort K r22.op).bind fun r24 =>
    (tree_Check K r22 r24).bind fun r26 =>
    if (r26 != (0 : Int)) then
     some ((NodeA.mk (0 : Int) (⟨#[]⟩ : ByteArray) (RatA.mk false [] []) []), r26)
    else
     some (r22, (0 : Int)))
set_option maxHeartbeats 4000000 in
theorem tree_Replace_ok {K : Nat} {p0 : NodeA} {p1 : List Int} {p2 : NodeA} {r : NodeA × Int} (h : tree_Replace K p0 p1 p2 = some r) : Cn Tryz.prog 39 [aggV p0.enc, .d (slD i64V p1), aggV p2.enc] (.tup [aggV r.1.enc, .d (.val (.int .i64 r.2))]) := by
 refine Cn.oz Tryz.func39 Tryz.call39 Tryz.ntmps39 Tryz.results39 fun hfit => ?_
 unfold tree_Replace at h
 refine AW.kr [] [0, 1, 2] ?_
 refine AW.ks [0, 1, 2] [1, 3, 5, 6] ?_
 refine AW.one ?_
 refine AW.ro ?_
 refine cm h tree_root_ok fun r1 hx2 h => ?_
 refine AW.kr [0, 1, 2] [1, 3, 5, 6, 8] ?_
 refine AW.ks [0, 1, 2] [1, 3, 5, 6, 8, 17] ?_
 refine AW.tk h (fun hb3 h => ?_) fun hb3 h => ?_
 ·refine AW.ro ?_
  refine AW.ret ?_
  cases h; refine nz ?_; exact .tupL ⟨.aggL ⟨.same _, .same _, .same _, .nil, .nil, .nil, trivial⟩, .same _, trivial⟩
 refine AW.kr [0, 1, 2] [1, 3, 5, 6] ?_
 refine cm h tree_step_ok fun r4 hx5 h => ?_
 refine AW.ks [0, 1, 2, 9] [1, 3, 5, 6, 9, 10] ?_
 refine AW.one ?_
 refine AW.ro ?_
 refine AW.ks [0, 1, 2, 3] [1, 3, 5, 6, 9, 27] ?_
 refine AW.tk h (fun hb6 h => ?_) fun hb6 h => ?_
 ·refine AW.ro ?_
  refine AW.ret ?_
  cases h; refine nz ?_; exact .tupL ⟨.aggL ⟨.same _, .same _, .same _, .nil, .nil, .nil, trivial⟩, .same _, trivial⟩
 refine AW.ks [0, 1, 2, 3] [1, 3, 5, 6, 9] ?_
 refine AW.jo h (fun _ => [(1, vL i64V p1), (3, .ptr 0 6 0 0), (5, .ptr 1 6 0 0), (6, .ptr 2 6 0 0)]) (fun _ => [vE p0.enc, vE p2.enc, some ⟨6, [[vI (0 : Int), vS (⟨#[]⟩ : ByteArray), vB false, .d (.val (.slice none 0 0)), .d (.val (.slice none 0 0)), .d (.val (.slice none 0 0))]]⟩]) (fun oJ8 h hJ8 => ?_) fun ⟨⟩ h => ?_
 ·refine AW.jn h (fun v9_0 => [(1, vL i64V p1), (3, .ptr 0 6 0 0), (5, .ptr 1 6 0 0), (6, .ptr 2 6 0 0), (41, vB v9_0)]) (fun v9_0 => [vE p0.enc, vE p2.enc, some ⟨6, [[vI (0 : Int), vS (⟨#[]⟩ : ByteArray), vB false, .d (.val (.slice none 0 0)), .d (.val (.slice none 0 0)), .d (.val (.slice none 0 0))]]⟩]) (fun oJ10 h => ?_) fun v9_0 h => ?_
  ·refine AW.rp ?_
   refine pm h tree_Sort_ok fun r11 hx12 h => ?_
   refine pm h tree_Sort_ok fun r13 hx14 h => ?_
   refine sK h (fun hb15 h => ?_) fun hb15 h => ?_
   ·exact ja [0, 1, 2] h
   refine pm h tree_Sort_ok fun r16 hx17 h => ?_
   exact ja [0, 1, 2] h
  refine AW.tk h (fun hb18 h => ?_) fun hb18 h => ?_
  ·refine AW.ro ?_
   refine AW.ret ?_
   have h := up h hJ8
   cases h; refine nz ?_; exact .tupL ⟨.aggL ⟨.same _, .same _, .same _, .nil, .nil, .nil, trivial⟩, .same _, trivial⟩
  exact jo [0, 1, 2] h
 refine AW.ro ?_
 refine AW.ks [0, 1, 2, 3] [1, 3, 5, 6, 11] ?_
 refine AW.one ?_
 refine AW.ro ?_
 apply bE h; intro r19 hx20 h
 have hc := nx (tree_within_ok (h := hx20))
 refine callK_loc [3] hc (by simp only [go_sem, reduceEqDiff, reduceAdd, reduceSub, reduceMul, reduceLeDiff, reduceLT, Nat.reduceBEq, reduceIte]) (by simp) (by simp only [go_sem, reduceEqDiff, reduceAdd, reduceSub, reduceMul, reduceLeDiff, reduceLT, Nat.reduceBEq, reduceIte]) ?_
 refine ns ?_
 refine AW.ks [0, 1, 2] [1, 3, 5, 6, 45] ?_
 refine AW.tk h (fun hb21 h => ?_) fun hb21 h => ?_
 ·refine AW.ro ?_
  refine AW.ret ?_
  cases h; refine nz ?_; exact .tupL ⟨.aggL ⟨.same _, .same _, .same _, .nil, .nil, .nil, trivial⟩, .same _, trivial⟩
 refine AW.kr [0, 1, 2] [1, 3, 5, 6] ?_
 refine cm h tree_put_ok fun r22 hx23 h => ?_
 refine AW.ks [2, 7] [6, 12] ?_
 refine AW.one ?_
 refine AW.ro ?_
 refine pm h tree_Sort_ok fun r24 hx25 h => ?_
 refine pm h tree_Check_ok fun r26 hx27 h => ?_
 refine AW.kr [0, 1] [6, 12, 13] ?_
 refine AW.ks [0, 1] [6, 12, 13, 57] ?_
 refine AW.tk h (fun hb28 h => ?_) fun hb28 h => ?_
 ·refine AW.ro ?_
  refine AW.ret ?_
  cases h; refine nz ?_; exact .tupL ⟨.aggL ⟨.same _, .same _, .same _, .nil, .nil, .nil, trivial⟩, .same _, trivial⟩
 refine AW.kr [0, 1] [6, 12] ?_
 refine AW.ret ?_
 cases h; refine nz ?_; exact .same _
/-! ### isochrone/rename.Bound -/
def rename_Bound (K : Nat) (p0 : NodeA) (p1 : List Int) (p2 : ByteArray) : Option (NodeA × Int) := (rename_check K p0).bind fun r1 =>
 if (r1 != (0 : Int)) then
  some ((NodeA.mk (0 : Int) (⟨#[]⟩ : ByteArray) (RatA.mk false [] []) []), r1)
 else
  (tree_At K p0 p1).bind fun r4 =>
  if (r4.2 != (0 : Int)) then
   some ((NodeA.mk (0 : Int) (⟨#[]⟩ : ByteArray) (RatA.mk false [] []) []), r4.2)
  else
   (rename_binder K r4.1).bind fun r7 =>
   ((
    ((
     (tree_Name K p2).bind fun r13 =>
     if (!r13) then
      some true
     else
      some (!r7.2.2)) : Option Bool).bind (fun v11_0 =>
    if v11_0 then
     outM (
      some ((NodeA.mk (0 : Int) (⟨#[]⟩ : ByteArray) (RatA.mk false [] []) []), (3 : Int)))
    else
     some (.go ()))) : Option (Out Unit _)).bind (Out.fin fun _ =>
   (idx r4.1.kids r7.2.1).bind fun x17 =>
   ((
    ((
     (rename_renamable K x17).bind fun r23 =>
     if (!r23) then
      some true
     else
      some (r7.1.toList == p2.toList)) : Option Bool).bind (fun v21_0 =>
    if v21_0 then
     outM (
      some ((NodeA.mk (0 : Int) (⟨#[]⟩ : ByteArray) (RatA.mk false [] []) []), (180 : Int)))
    else
     some (.go ()))) : Option (Out Unit _)).bind (Out.fin fun _ =>
   (static_FreeOf K x17).bind fun r27 =>
   (static_BoundOf K x17).bind fun r29 =>
   (catO p2 (⟨#[39]⟩ : ByteArray)).bind fun s31 =>
   (catO r7.1 (⟨#[39]⟩ : ByteArray)).bind fun s33 =>
   (some [p2, s31, s33]).bind fun l35 =>
   ((iter (S := Int) (R := Out Unit _) K (fun again i37_0 =>
    if (decide (i37_0 < ([p2, s31, s33].length : Int))) then
     ((
      (idx l35 i37_0).bind fun x44 =>
      ((
       (static_Has K r27 x44).bind fun r48 =>
       if r48 then
        some true
       else
        (static_Has K r29 x44).bind fun r51 =>
        some r51) : Option Bool).bind (fun v46_0 =>
      if v46_0 then
       outM (
        outM (
         some ((NodeA.mk (0 : Int) (⟨#[]⟩ : ByteArray) (RatA.mk false [] []) []), (180 : Int))))
      else
       some (.go ()))) : Option (Out Unit _)).bind (Out.fin fun _ =>
     again (IntKind.wrap .i64 (i37_0 + (1 : Int))))
    else
     some (.go ())) (0 : Int)) : Option (Out Unit _)).bind (Out.fin fun _ =>
   (rename_uniform K x17 r7.1 p2).bind fun r54 =>
   (idx r4.1.kids r7.2.1).bind fun x56 =>
   ((
    if (r7.2.1 == (0 : Int)) then
     some (p2, (r4.1.kids.set (r7.2.1.toNat) r54))
    else
     (idx (r4.1.kids.set (r7.2.1.toNat) r54) (0 : Int)).bind fun x61 =>
     some (r4.1.name, ((r4.1.kids.set (r7.2.1.toNat) r54).set ((0 : Int).toNat) (NodeA.mk x61.op p2 x61.num x61.kids)))) : Option (ByteArray × (List NodeA))).bind (fun (v58_0, v58_1) =>
   (tree_Replace K p0 p1 (NodeA.mk r4.1.op v58_0 r4.1.num v58_1)).bind fun r63 =>
   some (r63.1, r63.2)))))
set_option maxHeartbeats 4000000 in
theorem rename_Bound_ok {K : Nat} {p0 : NodeA} {p1 : List Int} {p2 : ByteArray} {r : NodeA × Int} (h : rename_Bound K p0 p1 p2 = some r) : Cn Tryz.prog 12 [aggV p0.enc, .d (slD i64V p1), .d (.val (.string p2))] (.tup [aggV r.1.enc, .d (.val (.int .i64 r.2))]) := by
 refine Cn.ofA mixed Tryz.func12 rfl Tryz.call12 Tryz.ntmps12 Tryz.results12 (by simp) (by simp only [go_sem, reduceEqDiff, reduceAdd, reduceSub, reduceMul, reduceLeDiff, reduceLT, Nat.reduceBEq, reduceIte]) fun hfit => ?_
 unfold rename_Bound at h
 refine AW.kp [] [0, 1, 2] ?_
 refine AW.op mixed ?_
 refine AW.kp [0, 1] [1, 2, 3, 6] ?_
 refine AW.one ?_
 refine AW.op mixed ?_
 apply obindE h; intro r1 hx2 h
 have hc := nx (rename_check_ok (h := hx2))
 refine callP hc ?_
 refine AW.kp [0, 1] [1, 2, 3, 6, 8] ?_
 refine AW.op mixed ?_
 refine AW.kp [0, 1] [1, 2, 3, 6, 8, 22] ?_
 refine AW.ts (r1 != (0 : Int)) (fun hb3 => ?_) (fun hb3 => ?_)
 ·have h := ifT hb3 h
  refine AW.op mixed ?_
  refine AW.ret ?_
  obtain rfl := Option.some.inj h
  refine nz ?_
  exact .tupL ⟨.aggL ⟨.same _, .same _, .same _, .nil, .nil, .nil, trivial⟩, .same _, trivial⟩
 have h := ifF hb3 h
 refine AW.sk ?_
 refine AW.kp [0, 1] [1, 2, 3, 6] ?_
 refine AW.op mixed ?_
 apply obindE h; intro r4 hx5 h
 have hc := nx (tree_At_own (h := hx5))
 refine callK_own hc (by simp only [go_sem, reduceEqDiff, reduceAdd, reduceSub, reduceMul, reduceLeDiff, reduceLT, Nat.reduceBEq, reduceIte]) ?_
 try simp only [go_sem, reduceEqDiff, reduceAdd, reduceSub, reduceMul, reduceLeDiff, reduceLT, Nat.reduceBEq, reduceIte]
 refine AW.cu [0, 1, 8, 4] [(1, .d (slD i64V p1)), (2, .d (.val (.string p2))), (3, .ptr 0 6 0 0), (6, .ptr 1 6 0 0), (9, .ptr 2 6 0 0), (10, .d (.val (.int .i64 r4.2)))] [some ⟨6, [[.d (.val (.int .i64 p0.op)), .d (.val (.string p0.name)), .d (.val (.bool p0.num.neg)), .d (slD u32V p0.num.num), .d (slD u32V p0.num.den), .d (slD NodeA.enc p0.kids)]]⟩, some ⟨6, [[.d (.val (.int .i64 (0 : Int))), .d (.val (.string (⟨#[]⟩ : ByteArray))), .d (.val (.bool false)), .d (.val (.slice none 0 0)), .d (.val (.slice none 0 0)), .d (.val (.slice none 0 0))]]⟩, some ⟨6, [[.d (.val (.int .i64 r4.1.op)), .d (.val (.string r4.1.name)), .d (.val (.bool r4.1.num.neg)), .d (slD u32V r4.1.num.num), .d (slD u32V r4.1.num.den), accV 3 6 ((r4.1.kids.map NodeA.enc).map (·.map .d))]]⟩, accO 6 ((r4.1.kids.map NodeA.enc).map (·.map .d))] ?_
 refine AW.one ?_
 refine AW.op mixed ?_
 refine AW.cu [0, 1, 2, 3] [(1, .d (slD i64V p1)), (2, .d (.val (.string p2))), (3, .ptr 0 6 0 0), (6, .ptr 1 6 0 0), (9, .ptr 2 6 0 0), (10, .d (.val (.int .i64 r4.2))), (32, .d (.val (.bool (r4.2 != (0 : Int)))))] [some ⟨6, [[.d (.val (.int .i64 p0.op)), .d (.val (.string p0.name)), .d (.val (.bool p0.num.neg)), .d (slD u32V p0.num.num), .d (slD u32V p0.num.den), .d (slD NodeA.enc p0.kids)]]⟩, some ⟨6, [[.d (.val (.int .i64 (0 : Int))), .d (.val (.string (⟨#[]⟩ : ByteArray))), .d (.val (.bool false)), .d (.val (.slice none 0 0)), .d (.val (.slice none 0 0)), .d (.val (.slice none 0 0))]]⟩, some ⟨6, [[.d (.val (.int .i64 r4.1.op)), .d (.val (.string r4.1.name)), .d (.val (.bool r4.1.num.neg)), .d (slD u32V r4.1.num.num), .d (slD u32V r4.1.num.den), accV 3 6 ((r4.1.kids.map NodeA.enc).map (·.map .d))]]⟩, accO 6 ((r4.1.kids.map NodeA.enc).map (·.map .d))] ?_
 refine AW.ts (r4.2 != (0 : Int)) (fun hb6 => ?_) (fun hb6 => ?_)
 ·have h := ifT hb6 h
  refine AW.op mixed ?_
  refine AW.ret ?_
  obtain rfl := Option.some.inj h
  refine nz ?_
  exact .tupL ⟨.aggL ⟨.same _, .same _, .same _, .nil, .nil, .nil, trivial⟩, .same _, trivial⟩
 have h := ifF hb6 h
 refine AW.sk ?_
 refine AW.cu [0, 1, 2, 3] [(1, .d (slD i64V p1)), (2, .d (.val (.string p2))), (3, .ptr 0 6 0 0), (6, .ptr 1 6 0 0), (9, .ptr 2 6 0 0)] [some ⟨6, [[.d (.val (.int .i64 p0.op)), .d (.val (.string p0.name)), .d (.val (.bool p0.num.neg)), .d (slD u32V p0.num.num), .d (slD u32V p0.num.den), .d (slD NodeA.enc p0.kids)]]⟩, some ⟨6, [[.d (.val (.int .i64 (0 : Int))), .d (.val (.string (⟨#[]⟩ : ByteArray))), .d (.val (.bool false)), .d (.val (.slice none 0 0)), .d (.val (.slice none 0 0)), .d (.val (.slice none 0 0))]]⟩, some ⟨6, [[.d (.val (.int .i64 r4.1.op)), .d (.val (.string r4.1.name)), .d (.val (.bool r4.1.num.neg)), .d (slD u32V r4.1.num.num), .d (slD u32V r4.1.num.den), accV 3 6 ((r4.1.kids.map NodeA.enc).map (·.map .d))]]⟩, accO 6 ((r4.1.kids.map NodeA.enc).map (·.map .d))] ?_
 refine AW.op mixed ?_
 apply obindE h; intro r7 hx8 h
 have hc := nx (rename_binder_ok (h := hx8))
 refine callK_look hc ⟨.aggL ⟨.same _, .same _, .same _, .same _, .same _, sealAcc (by simp only [go_sem, reduceEqDiff, reduceAdd, reduceSub, reduceMul, reduceLeDiff, reduceLT, Nat.reduceBEq, reduceIte]), trivial⟩, trivial⟩ (by simp only [go_sem, reduceEqDiff, reduceAdd, reduceSub, reduceMul, reduceLeDiff, reduceLT, Nat.reduceBEq, reduceIte]) (by simp [V.flat, V.flatL]) ?_
 try simp only [go_sem, reduceEqDiff, reduceAdd, reduceSub, reduceMul, reduceLeDiff, reduceLT, Nat.reduceBEq, reduceIte]
 refine AW.cu [0, 1, 2, 3] [(1, .d (slD i64V p1)), (2, .d (.val (.string p2))), (3, .ptr 0 6 0 0), (6, .ptr 1 6 0 0), (9, .ptr 2 6 0 0), (11, .d (.val (.string r7.1))), (12, .d (.val (.int .i64 r7.2.1))), (13, .d (.val (.bool r7.2.2)))] [some ⟨6, [[.d (.val (.int .i64 p0.op)), .d (.val (.string p0.name)), .d (.val (.bool p0.num.neg)), .d (slD u32V p0.num.num), .d (slD u32V p0.num.den), .d (slD NodeA.enc p0.kids)]]⟩, some ⟨6, [[.d (.val (.int .i64 (0 : Int))), .d (.val (.string (⟨#[]⟩ : ByteArray))), .d (.val (.bool false)), .d (.val (.slice none 0 0)), .d (.val (.slice none 0 0)), .d (.val (.slice none 0 0))]]⟩, some ⟨6, [[.d (.val (.int .i64 r4.1.op)), .d (.val (.string r4.1.name)), .d (.val (.bool r4.1.num.neg)), .d (slD u32V r4.1.num.num), .d (slD u32V r4.1.num.den), accV 3 6 ((r4.1.kids.map NodeA.enc).map (·.map .d))]]⟩, accO 6 ((r4.1.kids.map NodeA.enc).map (·.map .d))] ?_
 refine AW.one ?_
 refine obindE h fun oJ10 h hJ10 => ?_
 refine AW.join (S := Unit) (fun _ => [(1, .d (slD i64V p1)), (2, .d (.val (.string p2))), (3, .ptr 0 6 0 0), (6, .ptr 1 6 0 0), (9, .ptr 2 6 0 0), (11, .d (.val (.string r7.1))), (12, .d (.val (.int .i64 r7.2.1)))]) (fun _ => [some ⟨6, [[.d (.val (.int .i64 p0.op)), .d (.val (.string p0.name)), .d (.val (.bool p0.num.neg)), .d (slD u32V p0.num.num), .d (slD u32V p0.num.den), .d (slD NodeA.enc p0.kids)]]⟩, some ⟨6, [[.d (.val (.int .i64 (0 : Int))), .d (.val (.string (⟨#[]⟩ : ByteArray))), .d (.val (.bool false)), .d (.val (.slice none 0 0)), .d (.val (.slice none 0 0)), .d (.val (.slice none 0 0))]]⟩, some ⟨6, [[.d (.val (.int .i64 r4.1.op)), .d (.val (.string r4.1.name)), .d (.val (.bool r4.1.num.neg)), .d (slD u32V r4.1.num.num), .d (slD u32V r4.1.num.den), accV 3 6 ((r4.1.kids.map NodeA.enc).map (·.map .d))]]⟩, accO 6 ((r4.1.kids.map NodeA.enc).map (·.map .d))]) (fun x => oJ10 = .go x) ?_ ?_
 ·skip
  refine AW.one ?_
  refine obindE h fun oJ12 h hJ12 => ?_
  refine AW.join (S := Bool) (fun v11_0 => [(1, .d (slD i64V p1)), (2, .d (.val (.string p2))), (3, .ptr 0 6 0 0), (6, .ptr 1 6 0 0), (9, .ptr 2 6 0 0), (11, .d (.val (.string r7.1))), (12, .d (.val (.int .i64 r7.2.1))), (47, .d (.val (.bool v11_0)))]) (fun v11_0 => [some ⟨6, [[.d (.val (.int .i64 p0.op)), .d (.val (.string p0.name)), .d (.val (.bool p0.num.neg)), .d (slD u32V p0.num.num), .d (slD u32V p0.num.den), .d (slD NodeA.enc p0.kids)]]⟩, some ⟨6, [[.d (.val (.int .i64 (0 : Int))), .d (.val (.string (⟨#[]⟩ : ByteArray))), .d (.val (.bool false)), .d (.val (.slice none 0 0)), .d (.val (.slice none 0 0)), .d (.val (.slice none 0 0))]]⟩, some ⟨6, [[.d (.val (.int .i64 r4.1.op)), .d (.val (.string r4.1.name)), .d (.val (.bool r4.1.num.neg)), .d (slD u32V r4.1.num.num), .d (slD u32V r4.1.num.den), accV 3 6 ((r4.1.kids.map NodeA.enc).map (·.map .d))]]⟩, accO 6 ((r4.1.kids.map NodeA.enc).map (·.map .d))]) (fun x => x = oJ12) ?_ ?_
  ·skip
   refine AW.rg mixed ?_
   apply obindE h; intro r13 hx14 h
   have hc := nx (tree_Name_ok (h := hx14))
   refine callP hc ?_
   refine splitK_intro (fun hb15 => ?_) (fun hb15 => ?_)
   ·have h := ifT hb15 h
    try simp only [go_sem, reduceEqDiff, reduceAdd, reduceSub, reduceMul, reduceLeDiff, reduceLT, Nat.reduceBEq, reduceIte, hb15]
    refine JoinQ.mk true [0, 1, 2, 3] (Option.some.inj h) (by simp only [go_sem, reduceEqDiff, reduceAdd, reduceSub, reduceMul, reduceLeDiff, reduceLT, Nat.reduceBEq, reduceIte, hb15])
   have h := ifF hb15 h
   try simp only [go_sem, reduceEqDiff, reduceAdd, reduceSub, reduceMul, reduceLeDiff, reduceLT, Nat.reduceBEq, reduceIte, hb15]
   refine JoinQ.mk (!r7.2.2) [0, 1, 2, 3] (Option.some.inj h) (by simp only [go_sem, reduceEqDiff, reduceAdd, reduceSub, reduceMul, reduceLeDiff, reduceLT, Nat.reduceBEq, reduceIte, hb15])
  rintro v11_0 rfl
  have h := hJ12
  try dsimp only [Out.fin] at h
  refine nz ?_
  refine AW.ts v11_0 (fun hb16 => ?_) (fun hb16 => ?_)
  ·have h := ifT hb16 h
   refine AW.op mixed ?_
   refine AW.ret ?_
   obtain ⟨_, h, ho⟩ := outM_some h
   rw [ho, Out.fin_out] at hJ10
   have h := h.trans hJ10
   obtain rfl := Option.some.inj h
   refine nz ?_
   exact .tupL ⟨.aggL ⟨.same _, .same _, .same _, .nil, .nil, .nil, trivial⟩, .same _, trivial⟩
  have h := ifF hb16 h
  refine AW.sk ?_
  exact JoinQ.ar () [0, 1, 2, 3] (Option.some.inj h).symm
 rintro ⟨⟩ rfl
 have h := hJ10
 try dsimp only [Out.fin] at h
 refine nz ?_
 refine AW.op mixed ?_
 apply obindE h; intro x17 hx18 h
 try simp only [go_sem, reduceEqDiff, reduceAdd, reduceSub, reduceMul, reduceLeDiff, reduceLT, Nat.reduceBEq, reduceIte, (idx_some hx18).1, idx_lt hx18, (idx_some hx18).2, accV_idx hx18, accO_idx hx18]
 refine AW.cut [0, 1, 2, 3, 9] [(1, .d (slD i64V p1)), (2, .d (.val (.string p2))), (3, .ptr 0 6 0 0), (6, .ptr 1 6 0 0), (9, .ptr 2 6 0 0), (11, .d (.val (.string r7.1))), (12, .d (.val (.int .i64 r7.2.1))), (14, .ptr 4 6 0 0)] [some ⟨6, [[.d (.val (.int .i64 p0.op)), .d (.val (.string p0.name)), .d (.val (.bool p0.num.neg)), .d (slD u32V p0.num.num), .d (slD u32V p0.num.den), .d (slD NodeA.enc p0.kids)]]⟩, some ⟨6, [[.d (.val (.int .i64 (0 : Int))), .d (.val (.string (⟨#[]⟩ : ByteArray))), .d (.val (.bool false)), .d (.val (.slice none 0 0)), .d (.val (.slice none 0 0)), .d (.val (.slice none 0 0))]]⟩, some ⟨6, [[.d (.val (.int .i64 r4.1.op)), .d (.val (.string r4.1.name)), .d (.val (.bool r4.1.num.neg)), .d (slD u32V r4.1.num.num), .d (slD u32V r4.1.num.den), accV 3 6 ((r4.1.kids.map NodeA.enc).map (·.map .d))]]⟩, accO 6 ((r4.1.kids.map NodeA.enc).map (·.map .d)), some ⟨6, [[.d (.val (.int .i64 x17.op)), .d (.val (.string x17.name)), .d (.val (.bool x17.num.neg)), .d (slD u32V x17.num.num), .d (slD u32V x17.num.den), .d (slD NodeA.enc x17.kids)]]⟩] (by simp only [go_sem, reduceEqDiff, reduceAdd, reduceSub, reduceMul, reduceLeDiff, reduceLT, Nat.reduceBEq, reduceIte, (idx_some hx18).1, idx_lt hx18, (idx_some hx18).2, accV_idx hx18, accO_idx hx18]) ?_
 refine AW.one ?_
 refine obindE h fun oJ20 h hJ20 => ?_
 refine AW.join (S := Unit) (fun _ => [(1, .d (slD i64V p1)), (2, .d (.val (.string p2))), (3, .ptr 0 6 0 0), (6, .ptr 1 6 0 0), (9, .ptr 2 6 0 0), (11, .d (.val (.string r7.1))), (12, .d (.val (.int .i64 r7.2.1))), (14, .ptr 3 6 0 0)]) (fun _ => [some ⟨6, [[.d (.val (.int .i64 p0.op)), .d (.val (.string p0.name)), .d (.val (.bool p0.num.neg)), .d (slD u32V p0.num.num), .d (slD u32V p0.num.den), .d (slD NodeA.enc p0.kids)]]⟩, some ⟨6, [[.d (.val (.int .i64 (0 : Int))), .d (.val (.string (⟨#[]⟩ : ByteArray))), .d (.val (.bool false)), .d (.val (.slice none 0 0)), .d (.val (.slice none 0 0)), .d (.val (.slice none 0 0))]]⟩, some ⟨6, [[.d (.val (.int .i64 r4.1.op)), .d (.val (.string r4.1.name)), .d (.val (.bool r4.1.num.neg)), .d (slD u32V r4.1.num.num), .d (slD u32V r4.1.num.den), accV 4 6 ((r4.1.kids.map NodeA.enc).map (·.map .d))]]⟩, some ⟨6, [[.d (.val (.int .i64 x17.op)), .d (.val (.string x17.name)), .d (.val (.bool x17.num.neg)), .d (slD u32V x17.num.num), .d (slD u32V x17.num.den), .d (slD NodeA.enc x17.kids)]]⟩, accO 6 ((r4.1.kids.map NodeA.enc).map (·.map .d))]) (fun x => oJ20 = .go x) ?_ ?_
 ·skip
  refine AW.one ?_
  refine obindE h fun oJ22 h hJ22 => ?_
  refine AW.join (S := Bool) (fun v21_0 => [(1, .d (slD i64V p1)), (2, .d (.val (.string p2))), (3, .ptr 0 6 0 0), (6, .ptr 1 6 0 0), (9, .ptr 2 6 0 0), (11, .d (.val (.string r7.1))), (12, .d (.val (.int .i64 r7.2.1))), (14, .ptr 3 6 0 0), (61, .d (.val (.bool v21_0)))]) (fun v21_0 => [some ⟨6, [[.d (.val (.int .i64 p0.op)), .d (.val (.string p0.name)), .d (.val (.bool p0.num.neg)), .d (slD u32V p0.num.num), .d (slD u32V p0.num.den), .d (slD NodeA.enc p0.kids)]]⟩, some ⟨6, [[.d (.val (.int .i64 (0 : Int))), .d (.val (.string (⟨#[]⟩ : ByteArray))), .d (.val (.bool false)), .d (.val (.slice none 0 0)), .d (.val (.slice none 0 0)), .d (.val (.slice none 0 0))]]⟩, some ⟨6, [[.d (.val (.int .i64 r4.1.op)), .d (.val (.string r4.1.name)), .d (.val (.bool r4.1.num.neg)), .d (slD u32V r4.1.num.num), .d (slD u32V r4.1.num.den), accV 4 6 ((r4.1.kids.map NodeA.enc).map (·.map .d))]]⟩, some ⟨6, [[.d (.val (.int .i64 x17.op)), .d (.val (.string x17.name)), .d (.val (.bool x17.num.neg)), .d (slD u32V x17.num.num), .d (slD u32V x17.num.den), .d (slD NodeA.enc x17.kids)]]⟩, accO 6 ((r4.1.kids.map NodeA.enc).map (·.map .d))]) (fun x => x = oJ22) ?_ ?_
  ·skip
   refine AW.rg mixed ?_
   apply obindE h; intro r23 hx24 h
   have hc := nx (rename_renamable_ok (h := hx24))
   refine callP hc ?_
   refine splitK_intro (fun hb25 => ?_) (fun hb25 => ?_)
   ·have h := ifT hb25 h
    try simp only [go_sem, reduceEqDiff, reduceAdd, reduceSub, reduceMul, reduceLeDiff, reduceLT, Nat.reduceBEq, reduceIte, hb25]
    refine JoinQ.mk true [0, 1, 2, 4, 3] (Option.some.inj h) (by simp only [go_sem, reduceEqDiff, reduceAdd, reduceSub, reduceMul, reduceLeDiff, reduceLT, Nat.reduceBEq, reduceIte, hb25])
   have h := ifF hb25 h
   try simp only [go_sem, reduceEqDiff, reduceAdd, reduceSub, reduceMul, reduceLeDiff, reduceLT, Nat.reduceBEq, reduceIte, hb25]
   refine JoinQ.mk (r7.1.toList == p2.toList) [0, 1, 2, 4, 3] (Option.some.inj h) (by simp only [go_sem, reduceEqDiff, reduceAdd, reduceSub, reduceMul, reduceLeDiff, reduceLT, Nat.reduceBEq, reduceIte, hb25])
  rintro v21_0 rfl
  have h := hJ22
  try dsimp only [Out.fin] at h
  refine nz ?_
  refine AW.ts v21_0 (fun hb26 => ?_) (fun hb26 => ?_)
  ·have h := ifT hb26 h
   refine AW.op mixed ?_
   refine AW.ret ?_
   obtain ⟨_, h, ho⟩ := outM_some h
   rw [ho, Out.fin_out] at hJ20
   have h := h.trans hJ20
   obtain rfl := Option.some.inj h
   refine nz ?_
   exact .tupL ⟨.aggL ⟨.same _, .same _, .same _, .nil, .nil, .nil, trivial⟩, .same _, trivial⟩
  have h := ifF hb26 h
  refine AW.sk ?_
  exact JoinQ.ar () [0, 1, 2, 3, 4] (Option.some.inj h).symm
 rintro ⟨⟩ rfl
 have h := hJ20
 try dsimp only [Out.fin] at h
 refine nz ?_
 refine AW.op mixed ?_
 apply obindE h; intro r27 hx28 h
 have hc := nx (static_FreeOf_ok (h := hx28))
 refine callD hc ?_
 apply obindE h; intro r29 hx30 h
 have hc := nx (static_BoundOf_ok (h := hx30))
 refine callD hc ?_
 refine AW.cu [0, 1, 2, 4, 3, 9, 10] [(1, .d (slD i64V p1)), (2, .d (.val (.string p2))), (3, .ptr 0 6 0 0), (6, .ptr 1 6 0 0), (9, .ptr 2 6 0 0), (11, .d (.val (.string r7.1))), (12, .d (.val (.int .i64 r7.2.1))), (14, .ptr 4 6 0 0), (15, .ptr 5 2 0 0), (16, .ptr 6 2 0 0)] [some ⟨6, [[.d (.val (.int .i64 p0.op)), .d (.val (.string p0.name)), .d (.val (.bool p0.num.neg)), .d (slD u32V p0.num.num), .d (slD u32V p0.num.den), .d (slD NodeA.enc p0.kids)]]⟩, some ⟨6, [[.d (.val (.int .i64 (0 : Int))), .d (.val (.string (⟨#[]⟩ : ByteArray))), .d (.val (.bool false)), .d (.val (.slice none 0 0)), .d (.val (.slice none 0 0)), .d (.val (.slice none 0 0))]]⟩, some ⟨6, [[.d (.val (.int .i64 r4.1.op)), .d (.val (.string r4.1.name)), .d (.val (.bool r4.1.num.neg)), .d (slD u32V r4.1.num.num), .d (slD u32V r4.1.num.den), accV 3 6 ((r4.1.kids.map NodeA.enc).map (·.map .d))]]⟩, accO 6 ((r4.1.kids.map NodeA.enc).map (·.map .d)), some ⟨6, [[.d (.val (.int .i64 x17.op)), .d (.val (.string x17.name)), .d (.val (.bool x17.num.neg)), .d (slD u32V x17.num.num), .d (slD u32V x17.num.den), .d (slD NodeA.enc x17.kids)]]⟩, some ⟨2, [[.d (.val (.bool r27.all)), .d (slD strV r27.list)]]⟩, some ⟨2, [[.d (.val (.bool r29.all)), .d (slD strV r29.list)]]⟩] ?_
 refine AW.one ?_
 refine AW.op mixed ?_
 apply obindE h; intro s31 hx32 h
 try simp only [go_sem, reduceEqDiff, reduceAdd, reduceSub, reduceMul, reduceLeDiff, reduceLT, Nat.reduceBEq, reduceIte, bop_cat (P := Tryz.prog) hx32]
 apply obindE h; intro s33 hx34 h
 try simp only [go_sem, reduceEqDiff, reduceAdd, reduceSub, reduceMul, reduceLeDiff, reduceLT, Nat.reduceBEq, reduceIte, bop_cat (P := Tryz.prog) hx32, bop_cat (P := Tryz.prog) hx34]
 apply obindE h; intro l35 hx36 h
 refine AW.cut [0, 1, 2, 3, 4, 5, 6] [(1, .d (slD i64V p1)), (2, .d (.val (.string p2))), (3, .ptr 0 6 0 0), (6, .ptr 1 6 0 0), (9, .ptr 2 6 0 0), (11, .d (.val (.string r7.1))), (12, .d (.val (.int .i64 r7.2.1))), (14, .ptr 4 6 0 0), (15, .ptr 5 2 0 0), (16, .ptr 6 2 0 0), (72, .d (slD strV l35)), (73, .d (.val (.int .i64 ([p2, s31, s33].length : Int)))), (74, .d (.val (.int .i64 (0 : Int))))] [some ⟨6, [[.d (.val (.int .i64 p0.op)), .d (.val (.string p0.name)), .d (.val (.bool p0.num.neg)), .d (slD u32V p0.num.num), .d (slD u32V p0.num.den), .d (slD NodeA.enc p0.kids)]]⟩, some ⟨6, [[.d (.val (.int .i64 (0 : Int))), .d (.val (.string (⟨#[]⟩ : ByteArray))), .d (.val (.bool false)), .d (.val (.slice none 0 0)), .d (.val (.slice none 0 0)), .d (.val (.slice none 0 0))]]⟩, some ⟨6, [[.d (.val (.int .i64 r4.1.op)), .d (.val (.string r4.1.name)), .d (.val (.bool r4.1.num.neg)), .d (slD u32V r4.1.num.num), .d (slD u32V r4.1.num.den), accV 3 6 ((r4.1.kids.map NodeA.enc).map (·.map .d))]]⟩, accO 6 ((r4.1.kids.map NodeA.enc).map (·.map .d)), some ⟨6, [[.d (.val (.int .i64 x17.op)), .d (.val (.string x17.name)), .d (.val (.bool x17.num.neg)), .d (slD u32V x17.num.num), .d (slD u32V x17.num.den), .d (slD NodeA.enc x17.kids)]]⟩, some ⟨2, [[.d (.val (.bool r27.all)), .d (slD strV r27.list)]]⟩, some ⟨2, [[.d (.val (.bool r29.all)), .d (slD strV r29.list)]]⟩] (by simp only [go_sem, reduceEqDiff, reduceAdd, reduceSub, reduceMul, reduceLeDiff, reduceLT, Nat.reduceBEq, reduceIte, bop_cat (P := Tryz.prog) hx32, bop_cat (P := Tryz.prog) hx34, (Option.some.inj hx36).symm, slD]) ?_
 refine obindE h fun oJ40 h hJ40 => ?_
 refine AW.join (S := Unit) (fun _ => [(1, .d (slD i64V p1)), (2, .d (.val (.string p2))), (3, .ptr 0 6 0 0), (6, .ptr 1 6 0 0), (9, .ptr 2 6 0 0), (11, .d (.val (.string r7.1))), (12, .d (.val (.int .i64 r7.2.1))), (14, .ptr 3 6 0 0)]) (fun _ => [some ⟨6, [[.d (.val (.int .i64 p0.op)), .d (.val (.string p0.name)), .d (.val (.bool p0.num.neg)), .d (slD u32V p0.num.num), .d (slD u32V p0.num.den), .d (slD NodeA.enc p0.kids)]]⟩, some ⟨6, [[.d (.val (.int .i64 (0 : Int))), .d (.val (.string (⟨#[]⟩ : ByteArray))), .d (.val (.bool false)), .d (.val (.slice none 0 0)), .d (.val (.slice none 0 0)), .d (.val (.slice none 0 0))]]⟩, some ⟨6, [[.d (.val (.int .i64 r4.1.op)), .d (.val (.string r4.1.name)), .d (.val (.bool r4.1.num.neg)), .d (slD u32V r4.1.num.num), .d (slD u32V r4.1.num.den), accV 4 6 ((r4.1.kids.map NodeA.enc).map (·.map .d))]]⟩, some ⟨6, [[.d (.val (.int .i64 x17.op)), .d (.val (.string x17.name)), .d (.val (.bool x17.num.neg)), .d (slD u32V x17.num.num), .d (slD u32V x17.num.den), .d (slD NodeA.enc x17.kids)]]⟩, accO 6 ((r4.1.kids.map NodeA.enc).map (·.map .d))]) (fun x => oJ40 = .go x) ?_ ?_
 ·refine AW.block ?_
  refine AW.iter (S := Int) (fun i37_0 => [(1, .d (slD i64V p1)), (2, .d (.val (.string p2))), (3, .ptr 0 6 0 0), (6, .ptr 1 6 0 0), (9, .ptr 2 6 0 0), (11, .d (.val (.string r7.1))), (12, .d (.val (.int .i64 r7.2.1))), (14, .ptr 3 6 0 0), (15, .ptr 4 2 0 0), (16, .ptr 5 2 0 0), (72, .d (slD strV l35)), (73, .d (.val (.int .i64 ([p2, s31, s33].length : Int)))), (74, .d (.val (.int .i64 i37_0)))]) (fun i37_0 => [some ⟨6, [[.d (.val (.int .i64 p0.op)), .d (.val (.string p0.name)), .d (.val (.bool p0.num.neg)), .d (slD u32V p0.num.num), .d (slD u32V p0.num.den), .d (slD NodeA.enc p0.kids)]]⟩, some ⟨6, [[.d (.val (.int .i64 (0 : Int))), .d (.val (.string (⟨#[]⟩ : ByteArray))), .d (.val (.bool false)), .d (.val (.slice none 0 0)), .d (.val (.slice none 0 0)), .d (.val (.slice none 0 0))]]⟩, some ⟨6, [[.d (.val (.int .i64 r4.1.op)), .d (.val (.string r4.1.name)), .d (.val (.bool r4.1.num.neg)), .d (slD u32V r4.1.num.num), .d (slD u32V r4.1.num.den), accV 6 6 ((r4.1.kids.map NodeA.enc).map (·.map .d))]]⟩, some ⟨6, [[.d (.val (.int .i64 x17.op)), .d (.val (.string x17.name)), .d (.val (.bool x17.num.neg)), .d (slD u32V x17.num.num), .d (slD u32V x17.num.den), .d (slD NodeA.enc x17.kids)]]⟩, some ⟨2, [[.d (.val (.bool r27.all)), .d (slD strV r27.list)]]⟩, some ⟨2, [[.d (.val (.bool r29.all)), .d (slD strV r29.list)]]⟩, accO 6 ((r4.1.kids.map NodeA.enc).map (·.map .d))]) [0, 1, 2, 4, 5, 6, 3] h (by simp only [go_sem, reduceEqDiff, reduceAdd, reduceSub, reduceMul, reduceLeDiff, reduceLT, Nat.reduceBEq, reduceIte]) ?_
  rintro again i37_0 h
  try dsimp only at h
  refine AW.op mixed ?_
  refine AW.cu [0, 1, 2, 6, 3, 4, 5] [(1, .d (slD i64V p1)), (2, .d (.val (.string p2))), (3, .ptr 0 6 0 0), (6, .ptr 1 6 0 0), (9, .ptr 2 6 0 0), (11, .d (.val (.string r7.1))), (12, .d (.val (.int .i64 r7.2.1))), (14, .ptr 4 6 0 0), (15, .ptr 5 2 0 0), (16, .ptr 6 2 0 0), (72, .d (slD strV l35)), (73, .d (.val (.int .i64 ([p2, s31, s33].length : Int)))), (74, .d (.val (.int .i64 i37_0))), (75, .d (.val (.bool (decide (i37_0 < ([p2, s31, s33].length : Int))))))] [some ⟨6, [[.d (.val (.int .i64 p0.op)), .d (.val (.string p0.name)), .d (.val (.bool p0.num.neg)), .d (slD u32V p0.num.num), .d (slD u32V p0.num.den), .d (slD NodeA.enc p0.kids)]]⟩, some ⟨6, [[.d (.val (.int .i64 (0 : Int))), .d (.val (.string (⟨#[]⟩ : ByteArray))), .d (.val (.bool false)), .d (.val (.slice none 0 0)), .d (.val (.slice none 0 0)), .d (.val (.slice none 0 0))]]⟩, some ⟨6, [[.d (.val (.int .i64 r4.1.op)), .d (.val (.string r4.1.name)), .d (.val (.bool r4.1.num.neg)), .d (slD u32V r4.1.num.num), .d (slD u32V r4.1.num.den), accV 3 6 ((r4.1.kids.map NodeA.enc).map (·.map .d))]]⟩, accO 6 ((r4.1.kids.map NodeA.enc).map (·.map .d)), some ⟨6, [[.d (.val (.int .i64 x17.op)), .d (.val (.string x17.name)), .d (.val (.bool x17.num.neg)), .d (slD u32V x17.num.num), .d (slD u32V x17.num.den), .d (slD NodeA.enc x17.kids)]]⟩, some ⟨2, [[.d (.val (.bool r27.all)), .d (slD strV r27.list)]]⟩, some ⟨2, [[.d (.val (.bool r29.all)), .d (slD strV r29.list)]]⟩] ?_
  refine AW.one ?_
  refine AW.ts (decide (i37_0 < ([p2, s31, s33].length : Int))) (fun hb41 => ?_) (fun hb41 => ?_)
  ·have h := ifT hb41 h
   refine AW.sk ?_
   refine AW.cu [0, 1, 2, 3, 4, 5, 6] [(1, .d (slD i64V p1)), (2, .d (.val (.string p2))), (3, .ptr 0 6 0 0), (6, .ptr 1 6 0 0), (9, .ptr 2 6 0 0), (11, .d (.val (.string r7.1))), (12, .d (.val (.int .i64 r7.2.1))), (14, .ptr 4 6 0 0), (15, .ptr 5 2 0 0), (16, .ptr 6 2 0 0), (72, .d (slD strV l35)), (73, .d (.val (.int .i64 ([p2, s31, s33].length : Int)))), (74, .d (.val (.int .i64 i37_0)))] [some ⟨6, [[.d (.val (.int .i64 p0.op)), .d (.val (.string p0.name)), .d (.val (.bool p0.num.neg)), .d (slD u32V p0.num.num), .d (slD u32V p0.num.den), .d (slD NodeA.enc p0.kids)]]⟩, some ⟨6, [[.d (.val (.int .i64 (0 : Int))), .d (.val (.string (⟨#[]⟩ : ByteArray))), .d (.val (.bool false)), .d (.val (.slice none 0 0)), .d (.val (.slice none 0 0)), .d (.val (.slice none 0 0))]]⟩, some ⟨6, [[.d (.val (.int .i64 r4.1.op)), .d (.val (.string r4.1.name)), .d (.val (.bool r4.1.num.neg)), .d (slD u32V r4.1.num.num), .d (slD u32V r4.1.num.den), accV 3 6 ((r4.1.kids.map NodeA.enc).map (·.map .d))]]⟩, accO 6 ((r4.1.kids.map NodeA.enc).map (·.map .d)), some ⟨6, [[.d (.val (.int .i64 x17.op)), .d (.val (.string x17.name)), .d (.val (.bool x17.num.neg)), .d (slD u32V x17.num.num), .d (slD u32V x17.num.den), .d (slD NodeA.enc x17.kids)]]⟩, some ⟨2, [[.d (.val (.bool r27.all)), .d (slD strV r27.list)]]⟩, some ⟨2, [[.d (.val (.bool r29.all)), .d (slD strV r29.list)]]⟩] ?_
   refine AW.one ?_
   refine obindE h fun oJ43 h hJ43 => ?_
   refine AW.join (S := Unit) (fun _ => [(1, .d (slD i64V p1)), (2, .d (.val (.string p2))), (3, .ptr 0 6 0 0), (6, .ptr 1 6 0 0), (9, .ptr 2 6 0 0), (11, .d (.val (.string r7.1))), (12, .d (.val (.int .i64 r7.2.1))), (14, .ptr 3 6 0 0), (15, .ptr 4 2 0 0), (16, .ptr 5 2 0 0), (72, .d (slD strV l35)), (73, .d (.val (.int .i64 ([p2, s31, s33].length : Int)))), (74, .d (.val (.int .i64 i37_0)))]) (fun _ => [some ⟨6, [[.d (.val (.int .i64 p0.op)), .d (.val (.string p0.name)), .d (.val (.bool p0.num.neg)), .d (slD u32V p0.num.num), .d (slD u32V p0.num.den), .d (slD NodeA.enc p0.kids)]]⟩, some ⟨6, [[.d (.val (.int .i64 (0 : Int))), .d (.val (.string (⟨#[]⟩ : ByteArray))), .d (.val (.bool false)), .d (.val (.slice none 0 0)), .d (.val (.slice none 0 0)), .d (.val (.slice none 0 0))]]⟩, some ⟨6, [[.d (.val (.int .i64 r4.1.op)), .d (.val (.string r4.1.name)), .d (.val (.bool r4.1.num.neg)), .d (slD u32V r4.1.num.num), .d (slD u32V r4.1.num.den), accV 6 6 ((r4.1.kids.map NodeA.enc).map (·.map .d))]]⟩, some ⟨6, [[.d (.val (.int .i64 x17.op)), .d (.val (.string x17.name)), .d (.val (.bool x17.num.neg)), .d (slD u32V x17.num.num), .d (slD u32V x17.num.den), .d (slD NodeA.enc x17.kids)]]⟩, some ⟨2, [[.d (.val (.bool r27.all)), .d (slD strV r27.list)]]⟩, some ⟨2, [[.d (.val (.bool r29.all)), .d (slD strV r29.list)]]⟩, accO 6 ((r4.1.kids.map NodeA.enc).map (·.map .d))]) (fun x => oJ43 = .go x) ?_ ?_
   ·skip
    refine AW.block ?_
    refine AW.one ?_
    refine AW.reg mixed (by kernel_rfl) ?_
    apply obindE h; intro x44 hx45 h
    try simp only [go_sem, reduceEqDiff, reduceAdd, reduceSub, reduceMul, reduceLeDiff, reduceLT, Nat.reduceBEq, reduceIte, (idx_some hx45).1, (idx_some hx45).2]
    refine AW.cut [0, 1, 2, 3, 4, 5, 6] [(1, .d (slD i64V p1)), (2, .d (.val (.string p2))), (3, .ptr 0 6 0 0), (6, .ptr 1 6 0 0), (9, .ptr 2 6 0 0), (11, .d (.val (.string r7.1))), (12, .d (.val (.int .i64 r7.2.1))), (14, .ptr 4 6 0 0), (15, .ptr 5 2 0 0), (16, .ptr 6 2 0 0), (18, .d (.val (.string x44))), (72, .d (slD strV l35)), (73, .d (.val (.int .i64 ([p2, s31, s33].length : Int)))), (74, .d (.val (.int .i64 i37_0)))] [some ⟨6, [[.d (.val (.int .i64 p0.op)), .d (.val (.string p0.name)), .d (.val (.bool p0.num.neg)), .d (slD u32V p0.num.num), .d (slD u32V p0.num.den), .d (slD NodeA.enc p0.kids)]]⟩, some ⟨6, [[.d (.val (.int .i64 (0 : Int))), .d (.val (.string (⟨#[]⟩ : ByteArray))), .d (.val (.bool false)), .d (.val (.slice none 0 0)), .d (.val (.slice none 0 0)), .d (.val (.slice none 0 0))]]⟩, some ⟨6, [[.d (.val (.int .i64 r4.1.op)), .d (.val (.string r4.1.name)), .d (.val (.bool r4.1.num.neg)), .d (slD u32V r4.1.num.num), .d (slD u32V r4.1.num.den), accV 3 6 ((r4.1.kids.map NodeA.enc).map (·.map .d))]]⟩, accO 6 ((r4.1.kids.map NodeA.enc).map (·.map .d)), some ⟨6, [[.d (.val (.int .i64 x17.op)), .d (.val (.string x17.name)), .d (.val (.bool x17.num.neg)), .d (slD u32V x17.num.num), .d (slD u32V x17.num.den), .d (slD NodeA.enc x17.kids)]]⟩, some ⟨2, [[.d (.val (.bool r27.all)), .d (slD strV r27.list)]]⟩, some ⟨2, [[.d (.val (.bool r29.all)), .d (slD strV r29.list)]]⟩] (by simp only [go_sem, reduceEqDiff, reduceAdd, reduceSub, reduceMul, reduceLeDiff, reduceLT, Nat.reduceBEq, reduceIte, (idx_some hx45).1, (idx_some hx45).2]) ?_
    refine AW.one ?_
    refine obindE h fun oJ47 h hJ47 => ?_
    refine AW.join (S := Bool) (fun v46_0 => [(1, .d (slD i64V p1)), (2, .d (.val (.string p2))), (3, .ptr 0 6 0 0), (6, .ptr 1 6 0 0), (9, .ptr 2 6 0 0), (11, .d (.val (.string r7.1))), (12, .d (.val (.int .i64 r7.2.1))), (14, .ptr 3 6 0 0), (15, .ptr 4 2 0 0), (16, .ptr 5 2 0 0), (72, .d (slD strV l35)), (73, .d (.val (.int .i64 ([p2, s31, s33].length : Int)))), (74, .d (.val (.int .i64 i37_0))), (85, .d (.val (.bool v46_0)))]) (fun v46_0 => [some ⟨6, [[.d (.val (.int .i64 p0.op)), .d (.val (.string p0.name)), .d (.val (.bool p0.num.neg)), .d (slD u32V p0.num.num), .d (slD u32V p0.num.den), .d (slD NodeA.enc p0.kids)]]⟩, some ⟨6, [[.d (.val (.int .i64 (0 : Int))), .d (.val (.string (⟨#[]⟩ : ByteArray))), .d (.val (.bool false)), .d (.val (.slice none 0 0)), .d (.val (.slice none 0 0)), .d (.val (.slice none 0 0))]]⟩, some ⟨6, [[.d (.val (.int .i64 r4.1.op)), .d (.val (.string r4.1.name)), .d (.val (.bool r4.1.num.neg)), .d (slD u32V r4.1.num.num), .d (slD u32V r4.1.num.den), accV 6 6 ((r4.1.kids.map NodeA.enc).map (·.map .d))]]⟩, some ⟨6, [[.d (.val (.int .i64 x17.op)), .d (.val (.string x17.name)), .d (.val (.bool x17.num.neg)), .d (slD u32V x17.num.num), .d (slD u32V x17.num.den), .d (slD NodeA.enc x17.kids)]]⟩, some ⟨2, [[.d (.val (.bool r27.all)), .d (slD strV r27.list)]]⟩, some ⟨2, [[.d (.val (.bool r29.all)), .d (slD strV r29.list)]]⟩, accO 6 ((r4.1.kids.map NodeA.enc).map (·.map .d))]) (fun x => x = oJ47) ?_ ?_
    ·skip
     refine AW.rg mixed ?_
     apply obindE h; intro r48 hx49 h
     have hc := nx (static_Has_ok (h := hx49))
     refine callP hc ?_
     refine splitK_intro (fun hb50 => ?_) (fun hb50 => ?_)
     ·have h := ifT hb50 h
      try simp only [go_sem, reduceEqDiff, reduceAdd, reduceSub, reduceMul, reduceLeDiff, reduceLT, Nat.reduceBEq, reduceIte, hb50]
      refine JoinQ.mk true [0, 1, 2, 4, 5, 6, 3] (Option.some.inj h) (by simp only [go_sem, reduceEqDiff, reduceAdd, reduceSub, reduceMul, reduceLeDiff, reduceLT, Nat.reduceBEq, reduceIte, hb50])
     have h := ifF hb50 h
     try simp only [go_sem, reduceEqDiff, reduceAdd, reduceSub, reduceMul, reduceLeDiff, reduceLT, Nat.reduceBEq, reduceIte, hb50]
     apply obindE h; intro r51 hx52 h
     have hc := nx (static_Has_ok (h := hx52))
     refine callK_pure hc (by simp only [go_sem, reduceEqDiff, reduceAdd, reduceSub, reduceMul, reduceLeDiff, reduceLT, Nat.reduceBEq, reduceIte]) ?_
     try simp only [go_sem, reduceEqDiff, reduceAdd, reduceSub, reduceMul, reduceLeDiff, reduceLT, Nat.reduceBEq, reduceIte, hb50]
     refine JoinQ.mk r51 [0, 1, 2, 4, 5, 6, 3] (Option.some.inj h) (by simp only [go_sem, reduceEqDiff, reduceAdd, reduceSub, reduceMul, reduceLeDiff, reduceLT, Nat.reduceBEq, reduceIte, hb50])
    rintro v46_0 rfl
    have h := hJ47
    try dsimp only [Out.fin] at h
    refine nz ?_
    refine AW.ts v46_0 (fun hb53 => ?_) (fun hb53 => ?_)
    ·have h := ifT hb53 h
     refine AW.op mixed ?_
     refine AW.ret ?_
     obtain ⟨_, h, ho⟩ := outM_some h
     rw [ho, Out.fin_out] at hJ43
     have h := h.trans hJ43
     obtain ⟨_, h, ho⟩ := outM_some h
     rw [ho, Out.fin_out] at hJ40
     have h := h.trans hJ40
     obtain rfl := Option.some.inj h
     refine nz ?_
     exact .tupL ⟨.aggL ⟨.same _, .same _, .same _, .nil, .nil, .nil, trivial⟩, .same _, trivial⟩
    have h := ifF hb53 h
    refine AW.sk ?_
    exact JoinQ.ar () [0, 1, 2, 3, 4, 5, 6] (Option.some.inj h).symm
   rintro ⟨⟩ rfl
   have h := hJ43
   try dsimp only [Out.fin] at h
   refine nz ?_
   refine AW.rg mixed ?_
   exact NextQ.ar (IntKind.wrap .i64 (i37_0 + (1 : Int))) [0, 1, 2, 3, 4, 5, 6] h
  have h := ifF hb41 h
  refine AW.ex ?_
  exact JoinQ.ar () [0, 1, 2, 4, 3] (Option.some.inj h).symm
 rintro ⟨⟩ rfl
 have h := hJ40
 try dsimp only [Out.fin] at h
 refine nz ?_
 refine AW.cu [0, 1, 2, 4, 3] [(1, .d (slD i64V p1)), (2, .d (.val (.string p2))), (3, .ptr 0 6 0 0), (6, .ptr 1 6 0 0), (9, .ptr 2 6 0 0), (11, .d (.val (.string r7.1))), (12, .d (.val (.int .i64 r7.2.1))), (14, .ptr 4 6 0 0)] [some ⟨6, [[.d (.val (.int .i64 p0.op)), .d (.val (.string p0.name)), .d (.val (.bool p0.num.neg)), .d (slD u32V p0.num.num), .d (slD u32V p0.num.den), .d (slD NodeA.enc p0.kids)]]⟩, some ⟨6, [[.d (.val (.int .i64 (0 : Int))), .d (.val (.string (⟨#[]⟩ : ByteArray))), .d (.val (.bool false)), .d (.val (.slice none 0 0)), .d (.val (.slice none 0 0)), .d (.val (.slice none 0 0))]]⟩, some ⟨6, [[.d (.val (.int .i64 r4.1.op)), .d (.val (.string r4.1.name)), .d (.val (.bool r4.1.num.neg)), .d (slD u32V r4.1.num.num), .d (slD u32V r4.1.num.den), accV 3 6 ((r4.1.kids.map NodeA.enc).map (·.map .d))]]⟩, accO 6 ((r4.1.kids.map NodeA.enc).map (·.map .d)), some ⟨6, [[.d (.val (.int .i64 x17.op)), .d (.val (.string x17.name)), .d (.val (.bool x17.num.neg)), .d (slD u32V x17.num.num), .d (slD u32V x17.num.den), .d (slD NodeA.enc x17.kids)]]⟩] ?_
 refine AW.op mixed ?_
 apply obindE h; intro r54 hx55 h
 have hc := nx (rename_uniform_ok (h := hx55))
 refine callD hc ?_
 apply obindE h; intro x56 hx57 h
 try simp only [go_sem, reduceEqDiff, reduceAdd, reduceSub, reduceMul, reduceLeDiff, reduceLT, Nat.reduceBEq, reduceIte, (idx_some hx57).1, idx_lt hx57, (idx_some hx57).2, accV_idx hx57, accO_idx hx57, accV_set hx57, accO_set hx57, List.length_set, (rows_set (l := r4.1.kids) (f := NodeA.enc) (i := r7.2.1.toNat) (v' := r54) (row := [.d (.val (.int .i64 r54.op)), .d (.val (.string r54.name)), .d (.val (.bool r54.num.neg)), .d (slD u32V r54.num.num), .d (slD u32V r54.num.den), .d (slD NodeA.enc r54.kids)]) (by simp only [go_sem, reduceEqDiff, reduceAdd, reduceSub, reduceMul, reduceLeDiff, reduceLT, Nat.reduceBEq, reduceIte]))]
 refine AW.cut [0, 1, 2, 3] [(1, .d (slD i64V p1)), (2, .d (.val (.string p2))), (3, .ptr 0 6 0 0), (6, .ptr 1 6 0 0), (9, .ptr 2 6 0 0), (12, .d (.val (.int .i64 r7.2.1)))] [some ⟨6, [[.d (.val (.int .i64 p0.op)), .d (.val (.string p0.name)), .d (.val (.bool p0.num.neg)), .d (slD u32V p0.num.num), .d (slD u32V p0.num.den), .d (slD NodeA.enc p0.kids)]]⟩, some ⟨6, [[.d (.val (.int .i64 (0 : Int))), .d (.val (.string (⟨#[]⟩ : ByteArray))), .d (.val (.bool false)), .d (.val (.slice none 0 0)), .d (.val (.slice none 0 0)), .d (.val (.slice none 0 0))]]⟩, some ⟨6, [[.d (.val (.int .i64 r4.1.op)), .d (.val (.string r4.1.name)), .d (.val (.bool r4.1.num.neg)), .d (slD u32V r4.1.num.num), .d (slD u32V r4.1.num.den), accV 3 6 (((r4.1.kids.set (r7.2.1.toNat) r54).map NodeA.enc).map (·.map .d))]]⟩, accO 6 (((r4.1.kids.set (r7.2.1.toNat) r54).map NodeA.enc).map (·.map .d))] (by simp only [go_sem, reduceEqDiff, reduceAdd, reduceSub, reduceMul, reduceLeDiff, reduceLT, Nat.reduceBEq, reduceIte, (idx_some hx57).1, idx_lt hx57, (idx_some hx57).2, accV_idx hx57, accO_idx hx57, accV_set hx57, accO_set hx57, List.length_set, (rows_set (l := r4.1.kids) (f := NodeA.enc) (i := r7.2.1.toNat) (v' := r54) (row := [.d (.val (.int .i64 r54.op)), .d (.val (.string r54.name)), .d (.val (.bool r54.num.neg)), .d (slD u32V r54.num.num), .d (slD u32V r54.num.den), .d (slD NodeA.enc r54.kids)]) (by simp only [go_sem, reduceEqDiff, reduceAdd, reduceSub, reduceMul, reduceLeDiff, reduceLT, Nat.reduceBEq, reduceIte]))]) ?_
 refine AW.one ?_
 refine obindE h fun oJ59 h hJ59 => ?_
 refine AW.join (S := ByteArray × (List NodeA)) (fun (v58_0, v58_1) => [(1, .d (slD i64V p1)), (3, .ptr 0 6 0 0), (6, .ptr 1 6 0 0), (9, .ptr 2 6 0 0)]) (fun (v58_0, v58_1) => [some ⟨6, [[.d (.val (.int .i64 p0.op)), .d (.val (.string p0.name)), .d (.val (.bool p0.num.neg)), .d (slD u32V p0.num.num), .d (slD u32V p0.num.den), .d (slD NodeA.enc p0.kids)]]⟩, some ⟨6, [[.d (.val (.int .i64 (0 : Int))), .d (.val (.string (⟨#[]⟩ : ByteArray))), .d (.val (.bool false)), .d (.val (.slice none 0 0)), .d (.val (.slice none 0 0)), .d (.val (.slice none 0 0))]]⟩, some ⟨6, [[.d (.val (.int .i64 r4.1.op)), .d (.val (.string v58_0)), .d (.val (.bool r4.1.num.neg)), .d (slD u32V r4.1.num.num), .d (slD u32V r4.1.num.den), accV 3 6 ((v58_1.map NodeA.enc).map (·.map .d))]]⟩, accO 6 ((v58_1.map NodeA.enc).map (·.map .d))]) (fun x => x = oJ59) ?_ ?_
 ·skip
  refine AW.op mixed ?_
  refine AW.cu [0, 1, 2, 3] [(1, .d (slD i64V p1)), (2, .d (.val (.string p2))), (3, .ptr 0 6 0 0), (6, .ptr 1 6 0 0), (9, .ptr 2 6 0 0), (97, .d (.val (.bool (r7.2.1 == (0 : Int)))))] [some ⟨6, [[.d (.val (.int .i64 p0.op)), .d (.val (.string p0.name)), .d (.val (.bool p0.num.neg)), .d (slD u32V p0.num.num), .d (slD u32V p0.num.den), .d (slD NodeA.enc p0.kids)]]⟩, some ⟨6, [[.d (.val (.int .i64 (0 : Int))), .d (.val (.string (⟨#[]⟩ : ByteArray))), .d (.val (.bool false)), .d (.val (.slice none 0 0)), .d (.val (.slice none 0 0)), .d (.val (.slice none 0 0))]]⟩, some ⟨6, [[.d (.val (.int .i64 r4.1.op)), .d (.val (.string r4.1.name)), .d (.val (.bool r4.1.num.neg)), .d (slD u32V r4.1.num.num), .d (slD u32V r4.1.num.den), accV 3 6 (((r4.1.kids.set (r7.2.1.toNat) r54).map NodeA.enc).map (·.map .d))]]⟩, accO 6 (((r4.1.kids.set (r7.2.1.toNat) r54).map NodeA.enc).map (·.map .d))] ?_
  refine AW.ts (r7.2.1 == (0 : Int)) (fun hb60 => ?_) (fun hb60 => ?_)
  ·have h := ifT hb60 h
   refine AW.rg mixed ?_
   exact JoinQ.ar (p2, (r4.1.kids.set (r7.2.1.toNat) r54)) [0, 1, 2, 3] (Option.some.inj h)
  have h := ifF hb60 h
  refine AW.rg mixed ?_
  apply obindE h; intro x61 hx62 h
  try simp only [go_sem, reduceEqDiff, reduceAdd, reduceSub, reduceMul, reduceLeDiff, reduceLT, Nat.reduceBEq, reduceIte, (idx_some hx62).1, idx_lt_set hx62, idx_lt hx62, (idx_some hx62).2, accV_idx hx62, accO_idx hx62, accV_set hx62, accO_set hx62, List.length_set, (rows_set (l := (r4.1.kids.set (r7.2.1.toNat) r54)) (f := NodeA.enc) (i := (0 : Int).toNat) (v' := (NodeA.mk x61.op p2 x61.num x61.kids)) (row := [.d (.val (.int .i64 x61.op)), .d (.val (.string p2)), .d (.val (.bool x61.num.neg)), .d (slD u32V x61.num.num), .d (slD u32V x61.num.den), .d (slD NodeA.enc x61.kids)]) (by simp only [go_sem, reduceEqDiff, reduceAdd, reduceSub, reduceMul, reduceLeDiff, reduceLT, Nat.reduceBEq, reduceIte]))]
  refine JoinQ.mk (r4.1.name, ((r4.1.kids.set (r7.2.1.toNat) r54).set ((0 : Int).toNat) (NodeA.mk x61.op p2 x61.num x61.kids))) [0, 1, 2, 3] (Option.some.inj h) (by simp only [go_sem, reduceEqDiff, reduceAdd, reduceSub, reduceMul, reduceLeDiff, reduceLT, Nat.reduceBEq, reduceIte, (idx_some hx62).1, idx_lt_set hx62, idx_lt hx62, (idx_some hx62).2, accV_idx hx62, accO_idx hx62, accV_set hx62, accO_set hx62, List.length_set, (rows_set (l := (r4.1.kids.set (r7.2.1.toNat) r54)) (f := NodeA.enc) (i := (0 : Int).toNat) (v' := (NodeA.mk x61.op p2 x61.num x61.kids)) (row := [.d (.val (.int .i64 x61.op)), .d (.val (.string p2)), .d (.val (.bool x61.num.neg)), .d (slD u32V x61.num.num), .d (slD u32V x61.num.den), .d (slD NodeA.enc x61.kids)]) (by simp only [go_sem, reduceEqDiff, reduceAdd, reduceSub, reduceMul, reduceLeDiff, reduceLT, Nat.reduceBEq, reduceIte]))])
 rintro ⟨v58_0, v58_1⟩ rfl
 have h := hJ59
 try dsimp only [Out.fin] at h
 refine nz ?_
 refine AW.op mixed ?_
 apply obindE h; intro r63 hx64 h
 have hc := nx (tree_Replace_ok (h := hx64))
 refine callK_seal [3] hc ⟨.same _, .same _, .aggL ⟨.same _, .same _, .same _, .same _, .same _, sealAcc (by simp only [go_sem, reduceEqDiff, reduceAdd, reduceSub, reduceMul, reduceLeDiff, reduceLT, Nat.reduceBEq, reduceIte]), trivial⟩, trivial⟩ (by simp only [go_sem, reduceEqDiff, reduceAdd, reduceSub, reduceMul, reduceLeDiff, reduceLT, Nat.reduceBEq, reduceIte]) (by simp only [go_sem, reduceEqDiff, reduceAdd, reduceSub, reduceMul, reduceLeDiff, reduceLT, Nat.reduceBEq, reduceIte]) ?_
 try simp only [go_sem, reduceEqDiff, reduceAdd, reduceSub, reduceMul, reduceLeDiff, reduceLT, Nat.reduceBEq, reduceIte]
 refine AW.ret ?_
 obtain rfl := Option.some.inj h
 refine nz ?_
 exact .same _
/-! ### isochrone/rename.occurs -/
def rename_occurs_body (K : Nat) (self116 : (NodeA × ByteArray) → Option Bool) (p0 : NodeA) (p1 : ByteArray) : Option Bool := if (p0.name.toList == p1.toList) then
  some true
 else
  ((iter (S := Int) (R := Out Unit _) K (fun again i2_0 =>
   if (decide (i2_0 < (p0.kids.length : Int))) then
    (idx p0.kids i2_0).bind fun x7 =>
    (self116 (x7, p1)).bind fun r9 =>
    if r9 then
     outM (
      some true)
    else
     again (IntKind.wrap .i64 (i2_0 + (1 : Int)))
   else
    some (.go ())) (0 : Int)) : Option (Out Unit _)).bind (Out.fin fun _ =>
  some false)
set_option maxHeartbeats 4000000 in
theorem rename_occurs_step (K : Nat) (self116 : (NodeA × ByteArray) → Option Bool) (hself116 : ∀ (q : NodeA × ByteArray) (r : Bool), self116 q = some r → Cn Tryz.prog 116 [aggV q.1.enc, .d (.val (.string q.2))] (.d (.val (.bool r)))) (p0 : NodeA) (p1 : ByteArray) (r : Bool) (h : rename_occurs_body K self116 p0 p1 = some r) : Cn Tryz.prog 116 [aggV p0.enc, .d (.val (.string p1))] (.d (.val (.bool r))) := by
 refine Cn.oz Tryz.func116 Tryz.call116 Tryz.ntmps116 Tryz.results116 fun hfit => ?_
 unfold rename_occurs_body at h
 refine AW.kr [] [0, 1] ?_
 refine AW.ks [0] [1, 2] ?_
 refine AW.one ?_
 refine AW.ro ?_
 refine AW.ks [0] [1, 2, 10] ?_
 refine AW.tk h (fun hb1 h => ?_) fun hb1 h => ?_
 ·refine AW.ro ?_
  refine AW.ret ?_
  cases h; refine nz ?_; exact .same _
 refine AW.ks [0] [1, 2] ?_
 refine AW.one ?_
 refine AW.ro ?_
 refine AW.ks [] [1, 12, 13, 14] ?_
 refine AW.lp h (fun _ => []) (fun _ => []) (fun i2_0 => [(1, vS p1), (12, vL NodeA.enc p0.kids), (13, vI (p0.kids.length : Int)), (14, vI i2_0)]) (fun i2_0 => []) [] (fun oJ5 hJ5 again i2_0 h => ?_) fun ⟨⟩ h => ?_
 ·refine AW.ro ?_
  refine AW.ks [] [1, 12, 13, 14, 15] ?_
  refine AW.one ?_
  refine AW.tt h (fun hb6 h => ?_) fun hb6 h => ?_
  ·refine AW.sk ?_
   refine AW.ks [] [1, 12, 13, 14] ?_
   refine AW.one ?_
   refine AW.block ?_
   refine AW.ro ?_
   refine bx h fun x7 h0 h1 h => ?_
   refine AW.kr [2] [1, 6, 12, 13, 14] ?_
   refine cm h (hself116 _ _) fun r9 hx10 h => ?_
   refine AW.ks [] [1, 12, 13, 14, 20] ?_
   refine AW.tk h (fun hb11 h => ?_) fun hb11 h => ?_
   ·refine AW.ro ?_
    refine AW.ret ?_
    have h := up h hJ5
    cases h; refine nz ?_; exact .same _
   refine AW.ks [] [1, 12, 13, 14] ?_
   refine AW.rp ?_
   exact na [] h
  refine AW.ex ?_
  exact jo [] h
 refine AW.kr [] [] ?_
 refine AW.ret ?_
 cases h; refine nz ?_; exact .same _
def rename_occurs (K : Nat) (p0 : NodeA) (p1 : ByteArray) : Option Bool := iter K (fun self q => rename_occurs_body K self q.1 q.2) (p0, p1)
theorem key_rename_occurs {K : Nat} (k : Nat) : (∀ (q : NodeA × ByteArray) (r : Bool), iter k (fun self q => rename_occurs_body K self q.1 q.2) q = some r → Cn Tryz.prog 116 [aggV q.1.enc, .d (.val (.string q.2))] (.d (.val (.bool r)))) := by
 induction k with
 | zero => exact fun q r h => by cases h
 | succ k ih => exact fun q r h => rename_occurs_step K _ ih q.1 q.2 r h
theorem rename_occurs_ok {K : Nat} {p0 : NodeA} {p1 : ByteArray} {r : Bool} (h : rename_occurs K p0 p1 = some r) : Cn Tryz.prog 116 [aggV p0.enc, .d (.val (.string p1))] (.d (.val (.bool r))) := (key_rename_occurs K) (p0, p1) r h
/-! ### isochrone/rename.third -/
def rename_third (K : Nat) (p0 : NodeA) (p1 : NodeA) : Option ByteArray := ((iter (S := Int) (R := Out Unit _) K (fun again i1_0 =>
  ((
   (strconv_Itoa K i1_0).bind fun r7 =>
   (catO (⟨#[122]⟩ : ByteArray) r7).bind fun s9 =>
   ((
    (rename_occurs K p0 s9).bind fun r13 =>
    if (!r13) then
     (rename_occurs K p1 s9).bind fun r16 =>
     some (!r16)
    else
     some false) : Option Bool).bind (fun v11_0 =>
   if v11_0 then
    outM (
     outM (
      some s9))
   else
    some (.go ()))) : Option (Out Unit _)).bind (Out.fin fun _ =>
  again (IntKind.wrap .i64 (i1_0 + (1 : Int))))) (0 : Int)) : Option (Out Unit _)).bind (Out.fin fun _ =>
 none)
set_option maxHeartbeats 4000000 in
theorem rename_third_ok {K : Nat} {p0 : NodeA} {p1 : NodeA} {r : ByteArray} (h : rename_third K p0 p1 = some r) : Cn Tryz.prog 87 [aggV p0.enc, aggV p1.enc] (.d (.val (.string r))) := by
 refine Cn.oz Tryz.func87 Tryz.call87 Tryz.ntmps87 Tryz.results87 fun hfit => ?_
 unfold rename_third at h
 refine AW.kr [] [0, 1] ?_
 refine AW.kr [0, 1] [2, 3] ?_
 refine AW.ks [0, 1] [2, 3, 5] ?_
 refine AW.lp h (fun _ => []) (fun _ => []) (fun i1_0 => [(2, .ptr 0 6 0 0), (3, .ptr 1 6 0 0), (5, vI i1_0)]) (fun i1_0 => [vE p0.enc, vE p1.enc]) [0, 1] (fun oJ4 hJ4 again i1_0 h => ?_) fun ⟨⟩ h => ?_
 ·refine AW.jo h (fun _ => [(2, .ptr 0 6 0 0), (3, .ptr 1 6 0 0), (5, vI i1_0)]) (fun _ => [vE p0.enc, vE p1.enc]) (fun oJ6 h hJ6 => ?_) fun ⟨⟩ h => ?_
  ·refine AW.block ?_
   refine AW.ro ?_
   refine cm h strconv_Itoa_ok fun r7 hx8 h => ?_
   apply bE h; intro s9 hx10 h; have hx10 := bt hx10; refine ns ?_
   refine AW.ks [0, 1] [2, 3, 5, 6] ?_
   refine AW.jn h (fun v11_0 => [(2, .ptr 0 6 0 0), (3, .ptr 1 6 0 0), (5, vI i1_0), (6, vS s9), (21, vB v11_0)]) (fun v11_0 => [vE p0.enc, vE p1.enc]) (fun oJ12 h => ?_) fun v11_0 h => ?_
   ·refine AW.rp ?_
    refine cm h rename_occurs_ok fun r13 hx14 h => ?_
    refine sK h (fun hb15 h => ?_) fun hb15 h => ?_
    ·refine cm h rename_occurs_ok fun r16 hx17 h => ?_
     exact ja [0, 1] h
    exact ja [0, 1] h
   refine AW.tk h (fun hb18 h => ?_) fun hb18 h => ?_
   ·refine AW.ro ?_
    refine AW.ret ?_
    have h := up h hJ6
    have h := up h hJ4
    cases h; refine nz ?_; exact .same _
   exact jo [0, 1] h
  refine AW.rp ?_
  exact na [0, 1] h
 cases h
/-! ### isochrone/rename.touches -/
def rename_touches (K : Nat) (p0 : NodeA) (p1 : ByteArray) : Option Bool := (static_FreeOf K p0).bind fun r1 =>
 (static_Has K r1 p1).bind fun r3 =>
 if r3 then
  some true
 else
  (static_BoundOf K p0).bind fun r6 =>
  (static_Has K r6 p1).bind fun r8 =>
  some r8
set_option maxHeartbeats 4000000 in
theorem rename_touches_ok {K : Nat} {p0 : NodeA} {p1 : ByteArray} {r : Bool} (h : rename_touches K p0 p1 = some r) : Cn Tryz.prog 86 [aggV p0.enc, .d (.val (.string p1))] (.d (.val (.bool r))) := by
 refine Cn.oz Tryz.func86 Tryz.call86 Tryz.ntmps86 Tryz.results86 fun hfit => ?_
 unfold rename_touches at h
 refine AW.kr [] [0, 1] ?_
 refine AW.kr [0] [1, 2] ?_
 refine cm h static_FreeOf_ok fun r1 hx2 h => ?_
 refine cm h static_Has_ok fun r3 hx4 h => ?_
 refine sK h (fun hb5 h => ?_) fun hb5 h => ?_
 ·refine AW.ret ?_
  cases h; refine nz ?_; exact .same _
 refine cm h static_BoundOf_ok fun r6 hx7 h => ?_
 refine cm h static_Has_ok fun r8 hx9 h => ?_
 refine AW.ret ?_
 cases h; refine nz ?_; exact .same _
/-! ### isochrone/tree.less -/
def tree_less (K : Nat) (p0 : Bool) : Option Int := if p0 then
  some (-1 : Int)
 else
  some (1 : Int)
set_option maxHeartbeats 4000000 in
theorem tree_less_ok {K : Nat} {p0 : Bool} {r : Int} (h : tree_less K p0 = some r) : Cn Tryz.prog 128 [.d (.val (.bool p0))] (.d (.val (.int .i64 r))) := by
 refine Cn.oz Tryz.func128 Tryz.call128 Tryz.ntmps128 Tryz.results128 fun hfit => ?_
 unfold tree_less at h
 refine AW.kr [] [0] ?_
 refine AW.ks [] [0] ?_
 refine AW.one ?_
 refine AW.ro ?_
 refine AW.ks [] [3] ?_
 refine AW.tk h (fun hb1 h => ?_) fun hb1 h => ?_
 ·refine AW.ro ?_
  refine AW.ret ?_
  cases h; refine nz ?_; exact .same _
 refine AW.kr [] [] ?_
 refine AW.ret ?_
 cases h; refine nz ?_; exact .same _
/-! ### isochrone/tree.words -/
def tree_words (K : Nat) (p0 : List Int) (p1 : List Int) : Option Int := if ((p0.length : Int) != (p1.length : Int)) then
  (tree_less K (decide ((p0.length : Int) < (p1.length : Int)))).bind fun r2 =>
  some r2
 else
  ((iter (S := Int) (R := Out Unit _) K (fun again i4_0 =>
   if (decide ((0 : Int) ≤ i4_0)) then
    (idx p0 i4_0).bind fun x9 =>
    (idx p1 i4_0).bind fun x11 =>
    if (x9 != x11) then
     (tree_less K (decide (x9 < x11))).bind fun r14 =>
     outM (
      some r14)
    else
     again (IntKind.wrap .i64 (i4_0 - (1 : Int)))
   else
    some (.go ())) (IntKind.wrap .i64 ((p0.length : Int) - (1 : Int)))) : Option (Out Unit _)).bind (Out.fin fun _ =>
  some (0 : Int))
set_option maxHeartbeats 4000000 in
theorem tree_words_ok {K : Nat} {p0 : List Int} {p1 : List Int} {r : Int} (h : tree_words K p0 p1 = some r) : Cn Tryz.prog 129 [.d (slD u32V p0), .d (slD u32V p1)] (.d (.val (.int .i64 r))) := by
 refine Cn.oz Tryz.func129 Tryz.call129 Tryz.ntmps129 Tryz.results129 fun hfit => ?_
 unfold tree_words at h
 refine AW.kr [] [0, 1] ?_
 refine AW.ks [] [0, 1] ?_
 refine AW.one ?_
 refine AW.ro ?_
 refine AW.ks [] [0, 1, 10] ?_
 refine AW.tk h (fun hb1 h => ?_) fun hb1 h => ?_
 ·refine AW.ro ?_
  refine cm h tree_less_ok fun r2 hx3 h => ?_
  refine AW.ret ?_
  cases h; refine nz ?_; exact .same _
 refine AW.ks [] [0, 1] ?_
 refine AW.one ?_
 refine AW.ro ?_
 refine AW.ks [] [0, 1, 5] ?_
 refine AW.lp h (fun _ => []) (fun _ => []) (fun i4_0 => [(0, vL u32V p0), (1, vL u32V p1), (5, vI i4_0)]) (fun i4_0 => []) [] (fun oJ7 hJ7 again i4_0 h => ?_) fun ⟨⟩ h => ?_
 ·refine AW.one ?_
  refine AW.ro ?_
  refine AW.ks [] [0, 1, 5, 21] ?_
  refine AW.tt h (fun hb8 h => ?_) fun hb8 h => ?_
  ·refine AW.sk ?_
   refine AW.ks [] [0, 1, 5] ?_
   refine AW.one ?_
   refine AW.block ?_
   refine AW.ro ?_
   refine bx h fun x9 h0 h1 h => ?_
   refine bx h fun x11 h0 h1 h => ?_
   refine AW.ks [] [0, 1, 5, 32] ?_
   refine AW.tk h (fun hb13 h => ?_) fun hb13 h => ?_
   ·refine AW.ro ?_
    refine pm h tree_less_ok fun r14 hx15 h => ?_
    refine AW.ret ?_
    have h := up h hJ7
    cases h; refine nz ?_; exact .same _
   refine AW.ks [] [0, 1, 5] ?_
   refine AW.rp ?_
   exact na [] h
  refine AW.ex ?_
  exact jo [] h
 refine AW.kr [] [] ?_
 refine AW.ret ?_
 cases h; refine nz ?_; exact .same _
end Go.Proofs.YtphgabghcedphaaGreatDoor
