/- Part of the proof of a law: contracts of the functions that the law reaches, or plain laws of them, out of the abstract layer (the texts YtphgabghcedphaaGreatDoorIso..). No condition. -/
import Derived.Test.YtphgabghcedphaaGreatDoorW
import Derived.Test.YtphgabghcedphaaGreatDoorIsoF
import Derived.Test.YtphgabghcedphaaGreatDoorLman
import Derived.Test.YtphgabghcedphaaGreatDoorShelf
import Derived.Test.YtphgabghcedphaaGreatDoorIsoV
import Derived.Test.YtphgabghcedphaaGreatDoorPa
open Nat (reduceEqDiff reduceAdd reduceSub reduceMul reduceLeDiff reduceLT)
namespace Go.Proofs.YtphgabghcedphaaGreatDoor
open Go Go.Iso Go.Proofs
set_option linter.unusedSimpArgs false
set_option linter.unusedVariables false
set_option maxRecDepth 100000
/-! ### isochrone/tree.Compare -/
def tree_Compare_body (K : Nat) (self114 : (NodeA × NodeA) → Option Int) (p0 : NodeA) (p1 : NodeA) : Option Int := if (p0.op != p1.op) then
  (tree_less K (decide (p0.op < p1.op))).bind fun r2 =>
  some r2
 else
  if (!(p0.name.toList == p1.name.toList)) then
   (tree_less K (Op.bytesLess p0.name.toList p1.name.toList)).bind fun r5 =>
   some r5
  else
   if (!(p0.num.neg == p1.num.neg)) then
    (tree_less K p1.num.neg).bind fun r8 =>
    some r8
   else
    (tree_words K p0.num.num p1.num.num).bind fun r10 =>
    if (r10 != (0 : Int)) then
     some r10
    else
     (tree_words K p0.num.den p1.num.den).bind fun r13 =>
     if (r13 != (0 : Int)) then
      some r13
     else
      if ((p0.kids.length : Int) != (p1.kids.length : Int)) then
       (tree_less K (decide ((p0.kids.length : Int) < (p1.kids.length : Int)))).bind fun r17 =>
       some r17
      else
       ((iter (S := Int) (R := Out Unit _) K (fun again i19_0 =>
        if (decide (i19_0 < (p0.kids.length : Int))) then
         (idx p0.kids i19_0).bind fun x24 =>
         (idx p1.kids i19_0).bind fun x26 =>
         (self114 (x24, x26)).bind fun r28 =>
         if (r28 != (0 : Int)) then
          outM (
           some r28)
         else
          again (IntKind.wrap .i64 (i19_0 + (1 : Int)))
        else
         some (.go ())) (0 : Int)) : Option (Out Unit _)).bind (Out.fin fun _ =>
       some (0 : Int))
set_option maxHeartbeats 4000000 in
theorem tree_Compare_step (K : Nat) (self114 : (NodeA × NodeA) → Option Int) (hself114 : ∀ (q : NodeA × NodeA) (r : Int), self114 q = some r → Cn Tryz.prog 114 [aggV q.1.enc, aggV q.2.enc] (.d (.val (.int .i64 r)))) (p0 : NodeA) (p1 : NodeA) (r : Int) (h : tree_Compare_body K self114 p0 p1 = some r) : Cn Tryz.prog 114 [aggV p0.enc, aggV p1.enc] (.d (.val (.int .i64 r))) := by
 refine Cn.oz Tryz.func114 Tryz.call114 Tryz.ntmps114 Tryz.results114 fun hfit => ?_
 unfold tree_Compare_body at h
 refine AW.kr [] [0, 1] ?_
 refine AW.ks [0, 1] [2, 3] ?_
 refine AW.one ?_
 refine AW.block ?_
 refine AW.ro ?_
 refine AW.ks [0, 1] [2, 3, 9] ?_
 refine AW.tt h (fun hb1 h => ?_) fun hb1 h => ?_
 ·refine AW.ro ?_
  refine cm h tree_less_ok fun r2 hx3 h => ?_
  refine AW.ret ?_
  cases h; refine nz ?_; exact .same _
 refine AW.ro ?_
 refine AW.ks [0, 1] [2, 3, 21] ?_
 refine AW.tt h (fun hb4 h => ?_) fun hb4 h => ?_
 ·refine AW.ro ?_
  refine cm h tree_less_ok fun r5 hx6 h => ?_
  refine AW.ret ?_
  cases h; refine nz ?_; exact .same _
 refine AW.ro ?_
 refine AW.ks [0, 1] [2, 3, 33] ?_
 refine AW.tk h (fun hb7 h => ?_) fun hb7 h => ?_
 ·refine AW.ro ?_
  refine cm h tree_less_ok fun r8 hx9 h => ?_
  refine AW.ret ?_
  cases h; refine nz ?_; exact .same _
 refine AW.ks [0, 1] [2, 3] ?_
 refine AW.one ?_
 refine AW.ro ?_
 refine cm h tree_words_ok fun r10 hx11 h => ?_
 refine AW.kr [0, 1] [2, 3, 5] ?_
 refine AW.ks [0, 1] [2, 3, 5, 53] ?_
 refine AW.tk h (fun hb12 h => ?_) fun hb12 h => ?_
 ·refine AW.ro ?_
  refine AW.ret ?_
  cases h; refine nz ?_; exact .same _
 refine AW.ks [0, 1] [2, 3] ?_
 refine AW.one ?_
 refine AW.ro ?_
 refine cm h tree_words_ok fun r13 hx14 h => ?_
 refine AW.kr [0, 1] [2, 3, 6] ?_
 refine AW.ks [0, 1] [2, 3, 6, 63] ?_
 refine AW.tk h (fun hb15 h => ?_) fun hb15 h => ?_
 ·refine AW.ro ?_
  refine AW.ret ?_
  cases h; refine nz ?_; exact .same _
 refine AW.ks [0, 1] [2, 3] ?_
 refine AW.one ?_
 refine AW.ro ?_
 refine AW.ks [0, 1] [2, 3, 71] ?_
 refine AW.tk h (fun hb16 h => ?_) fun hb16 h => ?_
 ·refine AW.ro ?_
  refine cm h tree_less_ok fun r17 hx18 h => ?_
  refine AW.ret ?_
  cases h; refine nz ?_; exact .same _
 refine AW.ks [0, 1] [2, 3] ?_
 refine AW.one ?_
 refine AW.ro ?_
 refine AW.ks [0, 1] [2, 3, 82, 83] ?_
 refine AW.lp h (fun _ => []) (fun _ => []) (fun i19_0 => [(2, .ptr 0 6 0 0), (3, .ptr 1 6 0 0), (82, vI (p0.kids.length : Int)), (83, vI i19_0)]) (fun i19_0 => [vE p0.enc, vE p1.enc]) [0, 1] (fun oJ22 hJ22 again i19_0 h => ?_) fun ⟨⟩ h => ?_
 ·refine AW.ro ?_
  refine AW.ks [0, 1] [2, 3, 82, 83, 84] ?_
  refine AW.one ?_
  refine AW.tt h (fun hb23 h => ?_) fun hb23 h => ?_
  ·refine AW.sk ?_
   refine AW.ks [0, 1] [2, 3, 82, 83] ?_
   refine AW.one ?_
   refine AW.block ?_
   refine AW.ro ?_
   refine AW.kr [0, 1] [2, 3, 7, 82, 83] ?_
   refine bx h fun x24 h0 h1 h => ?_
   refine bx h fun x26 h0 h1 h => ?_
   refine pm h (hself114 _ _) fun r28 hx29 h => ?_
   refine AW.kr [0, 1] [2, 3, 8, 82, 83] ?_
   refine AW.ks [0, 1] [2, 3, 8, 82, 83, 98] ?_
   refine AW.tk h (fun hb30 h => ?_) fun hb30 h => ?_
   ·refine AW.ro ?_
    refine AW.ret ?_
    have h := up h hJ22
    cases h; refine nz ?_; exact .same _
   refine AW.ks [0, 1] [2, 3, 82, 83] ?_
   refine AW.rp ?_
   exact na [0, 1] h
  refine AW.ex ?_
  exact jo [] h
 refine AW.kr [] [] ?_
 refine AW.ret ?_
 cases h; refine nz ?_; exact .same _
def tree_Compare (K : Nat) (p0 : NodeA) (p1 : NodeA) : Option Int := iter K (fun self q => tree_Compare_body K self q.1 q.2) (p0, p1)
theorem key_tree_Compare {K : Nat} (k : Nat) : (∀ (q : NodeA × NodeA) (r : Int), iter k (fun self q => tree_Compare_body K self q.1 q.2) q = some r → Cn Tryz.prog 114 [aggV q.1.enc, aggV q.2.enc] (.d (.val (.int .i64 r)))) := by
 induction k with
 | zero => exact fun q r h => by cases h
 | succ k ih => exact fun q r h => tree_Compare_step K _ ih q.1 q.2 r h
theorem tree_Compare_ok {K : Nat} {p0 : NodeA} {p1 : NodeA} {r : Int} (h : tree_Compare K p0 p1 = some r) : Cn Tryz.prog 114 [aggV p0.enc, aggV p1.enc] (.d (.val (.int .i64 r))) := (key_tree_Compare K) (p0, p1) r h
/-! ### isochrone/tree.Equal -/
def tree_Equal (K : Nat) (p0 : NodeA) (p1 : NodeA) : Option Bool := (tree_Compare K p0 p1).bind fun r1 =>
 some (r1 == (0 : Int))
set_option maxHeartbeats 4000000 in
theorem tree_Equal_ok {K : Nat} {p0 : NodeA} {p1 : NodeA} {r : Bool} (h : tree_Equal K p0 p1 = some r) : Cn Tryz.prog 85 [aggV p0.enc, aggV p1.enc] (.d (.val (.bool r))) := by
 refine Cn.oz Tryz.func85 Tryz.call85 Tryz.ntmps85 Tryz.results85 fun hfit => ?_
 unfold tree_Equal at h
 refine AW.kr [] [0, 1] ?_
 refine AW.kr [0, 1] [2, 3] ?_
 refine cm h tree_Compare_ok fun r1 hx2 h => ?_
 refine AW.ret ?_
 cases h; refine nz ?_; exact .same _
/-! ### isochrone/rename.same -/
def rename_same_body (K : Nat) (self42 : (NodeA × NodeA) → Option Bool) (p0 : NodeA) (p1 : NodeA) : Option Bool := ((
  ((
   if (p0.op != p1.op) then
    some true
   else
    if ((p0.kids.length : Int) != (p1.kids.length : Int)) then
     some true
    else
     (tree_Equal K (NodeA.mk (0 : Int) (⟨#[]⟩ : ByteArray) p0.num []) (NodeA.mk (0 : Int) (⟨#[]⟩ : ByteArray) p1.num [])).bind fun r7 =>
     some (!r7)) : Option Bool).bind (fun v3_0 =>
  if v3_0 then
   outM (
    some false)
  else
   some (.go ()))) : Option (Out Unit _)).bind (Out.fin fun _ =>
 (rename_binder K p0).bind fun r10 =>
 (rename_binder K p1).bind fun r12 =>
 ((
  ((
   if r10.2.2 then
    if r12.2.2 then
     some (!(r10.1.toList == r12.1.toList))
    else
     some false
   else
    some false) : Option Bool).bind (fun v16_0 =>
  if v16_0 then
   ((
    if (r10.2.1 == (1 : Int)) then
     (idx p0.kids (0 : Int)).bind fun x24 =>
     (idx p1.kids (0 : Int)).bind fun x26 =>
     ((
      if (x24.op != x26.op) then
       some true
      else
       if ((x24.kids.length : Int) != (x26.kids.length : Int)) then
        some true
       else
        if (decide ((0 : Int) < (x24.kids.length : Int))) then
         (idx x24.kids (0 : Int)).bind fun x33 =>
         (idx x26.kids (0 : Int)).bind fun x35 =>
         (self42 (x33, x35)).bind fun r37 =>
         some (!r37)
        else
         some false) : Option Bool).bind (fun v28_0 =>
     if v28_0 then
      outM (
       outM (
        some false))
     else
      some (.go ()))
    else
     some (.go ())) : Option (Out Unit _)).bind (Out.fin fun _ =>
   (idx p0.kids r10.2.1).bind fun x40 =>
   (idx p1.kids r10.2.1).bind fun x42 =>
   ((
    ((
     (rename_renamable K x40).bind fun r48 =>
     if (!r48) then
      some true
     else
      (rename_renamable K x42).bind fun r51 =>
      if (!r51) then
       some true
      else
       (catO r10.1 (⟨#[39]⟩ : ByteArray)).bind fun s54 =>
       (rename_touches K x40 s54).bind fun r56 =>
       if r56 then
        some true
       else
        (catO r12.1 (⟨#[39]⟩ : ByteArray)).bind fun s59 =>
        (rename_touches K x42 s59).bind fun r61 =>
        some r61) : Option Bool).bind (fun v46_0 =>
    if v46_0 then
     outM (
      outM (
       some false))
    else
     some (.go ()))) : Option (Out Unit _)).bind (Out.fin fun _ =>
   (rename_third K p0 p1).bind fun r64 =>
   (rename_uniform K x40 r10.1 r64).bind fun r66 =>
   (rename_uniform K x42 r12.1 r64).bind fun r68 =>
   (self42 (r66, r68)).bind fun r70 =>
   outM (
    some r70)))
  else
   some (.go ()))) : Option (Out Unit _)).bind (Out.fin fun _ =>
 if (!(p0.name.toList == p1.name.toList)) then
  some false
 else
  ((iter (S := Int) (R := Out Unit _) K (fun again i73_0 =>
   if (decide (i73_0 < (p0.kids.length : Int))) then
    (idx p0.kids i73_0).bind fun x78 =>
    (idx p1.kids i73_0).bind fun x80 =>
    (self42 (x78, x80)).bind fun r82 =>
    if (!r82) then
     outM (
      some false)
    else
     again (IntKind.wrap .i64 (i73_0 + (1 : Int)))
   else
    some (.go ())) (0 : Int)) : Option (Out Unit _)).bind (Out.fin fun _ =>
  some true)))
set_option maxHeartbeats 4000000 in
theorem rename_same_step (K : Nat) (self42 : (NodeA × NodeA) → Option Bool) (hself42 : ∀ (q : NodeA × NodeA) (r : Bool), self42 q = some r → Cn Tryz.prog 42 [aggV q.1.enc, aggV q.2.enc] (.d (.val (.bool r)))) (p0 : NodeA) (p1 : NodeA) (r : Bool) (h : rename_same_body K self42 p0 p1 = some r) : Cn Tryz.prog 42 [aggV p0.enc, aggV p1.enc] (.d (.val (.bool r))) := by
 refine Cn.oz Tryz.func42 Tryz.call42 Tryz.ntmps42 Tryz.results42 fun hfit => ?_
 unfold rename_same_body at h
 refine AW.kr [] [0, 1] ?_
 refine AW.ks [0, 1] [2, 3] ?_
 refine AW.jo h (fun _ => [(2, .ptr 0 6 0 0), (3, .ptr 1 6 0 0)]) (fun _ => [vE p0.enc, vE p1.enc]) (fun oJ2 h hJ2 => ?_) fun ⟨⟩ h => ?_
 ·refine AW.jn h (fun v3_0 => [(2, .ptr 0 6 0 0), (3, .ptr 1 6 0 0), (40, vB v3_0)]) (fun v3_0 => [vE p0.enc, vE p1.enc]) (fun oJ4 h => ?_) fun v3_0 h => ?_
  ·refine AW.rp ?_
   refine sK h (fun hb5 h => ?_) fun hb5 h => ?_
   ·exact ja [0, 1] h
   refine sK h (fun hb6 h => ?_) fun hb6 h => ?_
   ·exact ja [0, 1] h
   refine cv h tree_Equal_ok (fun r7 hx8 h => ?_) (hs := by exact ⟨.aggL ⟨.same _, .same _, .same _, .same _, .same _, .nil, trivial⟩, .aggL ⟨.same _, .same _, .same _, .same _, .same _, .nil, trivial⟩, trivial⟩)
   exact ja [0, 1] h
  refine AW.tk h (fun hb9 h => ?_) fun hb9 h => ?_
  ·refine AW.ro ?_
   refine AW.ret ?_
   have h := up h hJ2
   cases h; refine nz ?_; exact .same _
  exact jo [0, 1] h
 refine AW.ro ?_
 refine cm h rename_binder_ok fun r10 hx11 h => ?_
 refine AW.kr [0, 1] [2, 3, 5, 6, 7] ?_
 refine cm h rename_binder_ok fun r12 hx13 h => ?_
 refine AW.ks [0, 1] [2, 3, 5, 6, 7, 8, 10] ?_
 refine AW.jo h (fun _ => [(2, .ptr 0 6 0 0), (3, .ptr 1 6 0 0)]) (fun _ => [vE p0.enc, vE p1.enc]) (fun oJ15 h hJ15 => ?_) fun ⟨⟩ h => ?_
 ·refine AW.jn h (fun v16_0 => [(2, .ptr 0 6 0 0), (3, .ptr 1 6 0 0), (5, vS r10.1), (6, vI r10.2.1), (8, vS r12.1), (61, vB v16_0)]) (fun v16_0 => [vE p0.enc, vE p1.enc]) (fun oJ17 h => ?_) fun v16_0 h => ?_
  ·refine AW.rp ?_
   refine sK h (fun hb18 h => ?_) fun hb18 h => ?_
   ·refine sK h (fun hb19 h => ?_) fun hb19 h => ?_
    ·exact ja [0, 1] h
    exact ja [0, 1] h
   exact ja [0, 1] h
  refine AW.tk h (fun hb20 h => ?_) fun hb20 h => ?_
  ·refine AW.jo h (fun _ => [(2, .ptr 0 6 0 0), (3, .ptr 1 6 0 0), (5, vS r10.1), (6, vI r10.2.1), (8, vS r12.1)]) (fun _ => [vE p0.enc, vE p1.enc]) (fun oJ22 h hJ22 => ?_) fun ⟨⟩ h => ?_
   ·refine AW.ro ?_
    refine AW.ks [0, 1] [2, 3, 5, 6, 8, 63] ?_
    refine AW.tk h (fun hb23 h => ?_) fun hb23 h => ?_
    ·refine AW.ro ?_
     refine bx h fun x24 h0 h1 h => ?_
     refine bx h fun x26 h0 h1 h => ?_
     refine AW.ks [0, 1, 10, 11] [2, 3, 5, 6, 8, 11, 12] ?_
     refine AW.jn h (fun v28_0 => [(2, .ptr 0 6 0 0), (3, .ptr 1 6 0 0), (5, vS r10.1), (6, vI r10.2.1), (8, vS r12.1), (103, vB v28_0)]) (fun v28_0 => [vE p0.enc, vE p1.enc]) (fun oJ29 h => ?_) fun v28_0 h => ?_
     ·refine AW.rp ?_
      refine sK h (fun hb30 h => ?_) fun hb30 h => ?_
      ·exact ja [0, 1] h
      refine sK h (fun hb31 h => ?_) fun hb31 h => ?_
      ·exact ja [0, 1] h
      refine sK h (fun hb32 h => ?_) fun hb32 h => ?_
      ·refine bx h fun x33 h0 h1 h => ?_
       refine bx h fun x35 h0 h1 h => ?_
       refine pm h (hself42 _ _) fun r37 hx38 h => ?_
       exact ja [0, 1] h
      exact ja [0, 1] h
     refine AW.tk h (fun hb39 h => ?_) fun hb39 h => ?_
     ·refine AW.ro ?_
      refine AW.ret ?_
      have h := up h hJ22
      have h := up h hJ15
      cases h; refine nz ?_; exact .same _
     exact jo [0, 1] h
    exact jo [0, 1] h
   refine AW.ro ?_
   refine bx h fun x40 h0 h1 h => ?_
   refine bx h fun x42 h0 h1 h => ?_
   refine AW.ks [0, 1, 12, 13] [2, 3, 5, 8, 13, 14] ?_
   refine AW.jo h (fun _ => [(2, .ptr 0 6 0 0), (3, .ptr 1 6 0 0), (5, vS r10.1), (8, vS r12.1), (13, .ptr 2 6 0 0), (14, .ptr 3 6 0 0)]) (fun _ => [vE p0.enc, vE p1.enc, vE x40.enc, vE x42.enc]) (fun oJ45 h hJ45 => ?_) fun ⟨⟩ h => ?_
   ·refine AW.jn h (fun v46_0 => [(2, .ptr 0 6 0 0), (3, .ptr 1 6 0 0), (5, vS r10.1), (8, vS r12.1), (13, .ptr 2 6 0 0), (14, .ptr 3 6 0 0), (133, vB v46_0)]) (fun v46_0 => [vE p0.enc, vE p1.enc, vE x40.enc, vE x42.enc]) (fun oJ47 h => ?_) fun v46_0 h => ?_
    ·refine AW.rp ?_
     refine cm h rename_renamable_ok fun r48 hx49 h => ?_
     refine sK h (fun hb50 h => ?_) fun hb50 h => ?_
     ·exact ja [0, 1, 2, 3] h
     refine cm h rename_renamable_ok fun r51 hx52 h => ?_
     refine sK h (fun hb53 h => ?_) fun hb53 h => ?_
     ·exact ja [0, 1, 2, 3] h
     apply bE h; intro s54 hx55 h; have hx55 := bt hx55; refine ns ?_
     refine cm h rename_touches_ok fun r56 hx57 h => ?_
     refine sK h (fun hb58 h => ?_) fun hb58 h => ?_
     ·exact ja [0, 1, 2, 3] h
     apply bE h; intro s59 hx60 h; have hx60 := bt hx60; refine ns ?_
     refine cm h rename_touches_ok fun r61 hx62 h => ?_
     exact ja [0, 1, 2, 3] h
    refine AW.tk h (fun hb63 h => ?_) fun hb63 h => ?_
    ·refine AW.ro ?_
     refine AW.ret ?_
     have h := up h hJ45
     have h := up h hJ15
     cases h; refine nz ?_; exact .same _
    exact jo [0, 1, 2, 3] h
   refine AW.ro ?_
   refine cm h rename_third_ok fun r64 hx65 h => ?_
   refine AW.kr [2, 3] [5, 8, 13, 14, 15] ?_
   refine pm h rename_uniform_ok fun r66 hx67 h => ?_
   refine pm h rename_uniform_ok fun r68 hx69 h => ?_
   refine pm h (hself42 _ _) fun r70 hx71 h => ?_
   refine AW.ret ?_
   have h := up h hJ15
   cases h; refine nz ?_; exact .same _
  exact jo [0, 1] h
 refine AW.one ?_
 refine AW.ro ?_
 refine AW.ks [0, 1] [2, 3, 150] ?_
 refine AW.tk h (fun hb72 h => ?_) fun hb72 h => ?_
 ·refine AW.ro ?_
  refine AW.ret ?_
  cases h; refine nz ?_; exact .same _
 refine AW.ks [0, 1] [2, 3] ?_
 refine AW.one ?_
 refine AW.ro ?_
 refine AW.ks [0, 1] [2, 3, 153, 154] ?_
 refine AW.lp h (fun _ => []) (fun _ => []) (fun i73_0 => [(2, .ptr 0 6 0 0), (3, .ptr 1 6 0 0), (153, vI (p0.kids.length : Int)), (154, vI i73_0)]) (fun i73_0 => [vE p0.enc, vE p1.enc]) [0, 1] (fun oJ76 hJ76 again i73_0 h => ?_) fun ⟨⟩ h => ?_
 ·refine AW.ro ?_
  refine AW.ks [0, 1] [2, 3, 153, 154, 155] ?_
  refine AW.one ?_
  refine AW.tt h (fun hb77 h => ?_) fun hb77 h => ?_
  ·refine AW.sk ?_
   refine AW.ks [0, 1] [2, 3, 153, 154] ?_
   refine AW.one ?_
   refine AW.block ?_
   refine AW.ro ?_
   refine AW.kr [0, 1] [2, 3, 16, 153, 154] ?_
   refine bx h fun x78 h0 h1 h => ?_
   refine bx h fun x80 h0 h1 h => ?_
   refine pm h (hself42 _ _) fun r82 hx83 h => ?_
   refine AW.ks [0, 1] [2, 3, 153, 154, 168] ?_
   refine AW.tk h (fun hb84 h => ?_) fun hb84 h => ?_
   ·refine AW.ro ?_
    refine AW.ret ?_
    have h := up h hJ76
    cases h; refine nz ?_; exact .same _
   refine AW.ks [0, 1] [2, 3, 153, 154] ?_
   refine AW.rp ?_
   exact na [0, 1] h
  refine AW.ex ?_
  exact jo [] h
 refine AW.kr [] [] ?_
 refine AW.ret ?_
 cases h; refine nz ?_; exact .same _
def rename_same (K : Nat) (p0 : NodeA) (p1 : NodeA) : Option Bool := iter K (fun self q => rename_same_body K self q.1 q.2) (p0, p1)
theorem key_rename_same {K : Nat} (k : Nat) : (∀ (q : NodeA × NodeA) (r : Bool), iter k (fun self q => rename_same_body K self q.1 q.2) q = some r → Cn Tryz.prog 42 [aggV q.1.enc, aggV q.2.enc] (.d (.val (.bool r)))) := by
 induction k with
 | zero => exact fun q r h => by cases h
 | succ k ih => exact fun q r h => rename_same_step K _ ih q.1 q.2 r h
theorem rename_same_ok {K : Nat} {p0 : NodeA} {p1 : NodeA} {r : Bool} (h : rename_same K p0 p1 = some r) : Cn Tryz.prog 42 [aggV p0.enc, aggV p1.enc] (.d (.val (.bool r))) := (key_rename_same K) (p0, p1) r h
/-! ### isochrone/rename.Same -/
def rename_Same (K : Nat) (p0 : NodeA) (p1 : NodeA) : Option (Bool × Int) := (tree_Sort K p0.op).bind fun r1 =>
 (rename_check K p0).bind fun r3 =>
 if (r3 != (0 : Int)) then
  some (false, r3)
 else
  ((
   (tree_Sort K p1.op).bind fun r8 =>
   ((
    if (r8 == (0 : Int)) then
     some true
    else
     some (r8 == (4 : Int))) : Option Bool).bind (fun v10_0 =>
   if v10_0 then
    outM (
     some (false, (80 : Int)))
   else
    (tree_Check K p1 r8).bind fun r14 =>
    if (r14 != (0 : Int)) then
     outM (
      some (false, r14))
    else
     if (r8 != r1) then
      outM (
       some (false, (0 : Int)))
     else
      some (.go ()))) : Option (Out Unit _)).bind (Out.fin fun _ =>
  (rename_same K p0 p1).bind fun r18 =>
  some (r18, (0 : Int)))
set_option maxHeartbeats 4000000 in
theorem rename_Same_ok {K : Nat} {p0 : NodeA} {p1 : NodeA} {r : Bool × Int} (h : rename_Same K p0 p1 = some r) : Cn Tryz.prog 13 [aggV p0.enc, aggV p1.enc] (.tup [.d (.val (.bool r.1)), .d (.val (.int .i64 r.2))]) := by
 refine Cn.oz Tryz.func13 Tryz.call13 Tryz.ntmps13 Tryz.results13 fun hfit => ?_
 unfold rename_Same at h
 refine AW.kr [] [0, 1] ?_
 refine AW.kr [0, 1] [2, 3] ?_
 refine cm h tree_Sort_ok fun r1 hx2 h => ?_
 refine AW.ks [0, 1] [2, 3, 6] ?_
 refine AW.one ?_
 refine AW.ro ?_
 refine cm h rename_check_ok fun r3 hx4 h => ?_
 refine AW.kr [0, 1] [2, 3, 6, 7] ?_
 refine AW.ks [0, 1] [2, 3, 6, 7, 16] ?_
 refine AW.tk h (fun hb5 h => ?_) fun hb5 h => ?_
 ·refine AW.ro ?_
  refine AW.ret ?_
  cases h; refine nz ?_; exact .same _
 refine AW.ks [0, 1] [2, 3, 6] ?_
 refine AW.jo h (fun _ => [(2, .ptr 0 6 0 0), (3, .ptr 1 6 0 0)]) (fun _ => [vE p0.enc, vE p1.enc]) (fun oJ7 h hJ7 => ?_) fun ⟨⟩ h => ?_
 ·refine AW.ro ?_
  refine cm h tree_Sort_ok fun r8 hx9 h => ?_
  refine AW.ks [0, 1] [2, 3, 6, 8] ?_
  refine AW.jn h (fun v10_0 => [(2, .ptr 0 6 0 0), (3, .ptr 1 6 0 0), (6, vI r1), (8, vI r8), (26, vB v10_0)]) (fun v10_0 => [vE p0.enc, vE p1.enc]) (fun oJ11 h => ?_) fun v10_0 h => ?_
  ·refine AW.rp ?_
   refine sK h (fun hb12 h => ?_) fun hb12 h => ?_
   ·exact ja [0, 1] h
   exact ja [0, 1] h
  refine AW.tt h (fun hb13 h => ?_) fun hb13 h => ?_
  ·refine AW.ro ?_
   refine AW.ret ?_
   have h := up h hJ7
   cases h; refine nz ?_; exact .same _
  refine AW.ro ?_
  refine cm h tree_Check_ok fun r14 hx15 h => ?_
  refine AW.kr [0, 1] [2, 3, 6, 8, 9] ?_
  refine AW.ks [0, 1] [2, 3, 6, 8, 9, 31] ?_
  refine AW.tt h (fun hb16 h => ?_) fun hb16 h => ?_
  ·refine AW.ro ?_
   refine AW.ret ?_
   have h := up h hJ7
   cases h; refine nz ?_; exact .same _
  refine AW.ro ?_
  refine AW.ks [0, 1] [2, 3, 35] ?_
  refine AW.tk h (fun hb17 h => ?_) fun hb17 h => ?_
  ·refine AW.ro ?_
   refine AW.ret ?_
   have h := up h hJ7
   cases h; refine nz ?_; exact .same _
  exact jo [0, 1] h
 refine AW.ro ?_
 refine cm h rename_same_ok fun r18 hx19 h => ?_
 refine AW.ret ?_
 cases h; refine nz ?_; exact .same _
/-! ### isochrone/isochronelaw18.awake -/
def law18_awake (K : Nat)  : Option Bool := (rename_Bound K (NodeA.mk (33 : Int) (⟨#[120]⟩ : ByteArray) (RatA.mk false [] []) [(NodeA.mk (22 : Int) (⟨#[]⟩ : ByteArray) (RatA.mk false [] []) [(NodeA.mk (2 : Int) (⟨#[120]⟩ : ByteArray) (RatA.mk false [] []) []), (NodeA.mk (2 : Int) (⟨#[122]⟩ : ByteArray) (RatA.mk false [] []) [])])]) [] (⟨#[121]⟩ : ByteArray)).bind fun r1 =>
 (rename_Same K (NodeA.mk (33 : Int) (⟨#[120]⟩ : ByteArray) (RatA.mk false [] []) [(NodeA.mk (22 : Int) (⟨#[]⟩ : ByteArray) (RatA.mk false [] []) [(NodeA.mk (2 : Int) (⟨#[120]⟩ : ByteArray) (RatA.mk false [] []) []), (NodeA.mk (2 : Int) (⟨#[122]⟩ : ByteArray) (RatA.mk false [] []) [])])]) (NodeA.mk (33 : Int) (⟨#[121]⟩ : ByteArray) (RatA.mk false [] []) [(NodeA.mk (22 : Int) (⟨#[]⟩ : ByteArray) (RatA.mk false [] []) [(NodeA.mk (2 : Int) (⟨#[121]⟩ : ByteArray) (RatA.mk false [] []) []), (NodeA.mk (2 : Int) (⟨#[122]⟩ : ByteArray) (RatA.mk false [] []) [])])])).bind fun r3 =>
 (rename_Bound K (NodeA.mk (33 : Int) (⟨#[120]⟩ : ByteArray) (RatA.mk false [] []) [(NodeA.mk (22 : Int) (⟨#[]⟩ : ByteArray) (RatA.mk false [] []) [(NodeA.mk (2 : Int) (⟨#[120]⟩ : ByteArray) (RatA.mk false [] []) []), (NodeA.mk (2 : Int) (⟨#[122]⟩ : ByteArray) (RatA.mk false [] []) [])])]) [] (⟨#[122]⟩ : ByteArray)).bind fun r5 =>
 if (r1.2 == (0 : Int)) then
  (r08_Equal K r1.1 (NodeA.mk (33 : Int) (⟨#[121]⟩ : ByteArray) (RatA.mk false [] []) [(NodeA.mk (22 : Int) (⟨#[]⟩ : ByteArray) (RatA.mk false [] []) [(NodeA.mk (2 : Int) (⟨#[121]⟩ : ByteArray) (RatA.mk false [] []) []), (NodeA.mk (2 : Int) (⟨#[122]⟩ : ByteArray) (RatA.mk false [] []) [])])])).bind fun r8 =>
  if r8 then
   if (r3.2 == (0 : Int)) then
    if r3.1 then
     some (r5.2 == (180 : Int))
    else
     some false
   else
    some false
  else
   some false
 else
  some false
set_option maxHeartbeats 4000000 in
theorem law18_awake_ok {K : Nat}  {r : Bool} (h : law18_awake K  = some r) : Cn Tryz.prog 4 [] (.d (.val (.bool r))) := by
 refine Cn.oz Tryz.func4 Tryz.call4 Tryz.ntmps4 Tryz.results4 fun hfit => ?_
 unfold law18_awake at h
 refine AW.kr [] [] ?_
 refine AW.kr [] [] ?_
 refine AW.kr [1] [1] ?_
 refine AW.kr [0, 7] [1, 2] ?_
 refine AW.kr [1, 8] [2, 3] ?_
 apply bE h; intro r1 hx2 h
 have hc := rename_Bound_ok (h := hx2)
 try simp only [slD, NodeA.enc_eta, RatA.enc_eta, NodeA.op_mk, NodeA.name_mk, NodeA.num_mk, NodeA.kids_mk, aggV, i64V, u32V, strV, List.map_cons, List.map_nil] at hc
 refine callK_conv hc ⟨.aggL ⟨.same _, .same _, .same _, .nil, .nil, .d (.dn (.rows (by (try simp only [slD, NodeA.enc_eta, RatA.enc_eta, NodeA.op_mk, NodeA.name_mk, NodeA.num_mk, NodeA.kids_mk, aggV, i64V, u32V, strV, List.map_cons, List.map_nil]); exact ⟨⟨.refl _, .refl _, .refl _, .nil _ _, .nil _ _, .rows (by (try simp only [slD, NodeA.enc_eta, RatA.enc_eta, NodeA.op_mk, NodeA.name_mk, NodeA.num_mk, NodeA.kids_mk, aggV, i64V, u32V, strV, List.map_cons, List.map_nil]); exact ⟨⟨.refl _, .refl _, .refl _, .nil _ _, .nil _ _, .nil _ _, trivial⟩, ⟨.refl _, .refl _, .refl _, .nil _ _, .nil _ _, .nil _ _, trivial⟩, trivial⟩), trivial⟩, trivial⟩))), trivial⟩, .nil, .same _, trivial⟩ (by simp only [go_sem, reduceEqDiff, reduceAdd, reduceSub, reduceMul, reduceLeDiff, reduceLT, Nat.reduceBEq, reduceIte]) ?_
 refine ns ?_
 refine AW.kr [0, 1, 7] [2, 3, 4, 5] ?_
 apply bE h; intro r3 hx4 h
 have hc := rename_Same_ok (h := hx4)
 try simp only [slD, NodeA.enc_eta, RatA.enc_eta, NodeA.op_mk, NodeA.name_mk, NodeA.num_mk, NodeA.kids_mk, aggV, i64V, u32V, strV, List.map_cons, List.map_nil] at hc
 refine callK_conv hc ⟨.aggL ⟨.same _, .same _, .same _, .nil, .nil, .d (.dn (.rows (by (try simp only [slD, NodeA.enc_eta, RatA.enc_eta, NodeA.op_mk, NodeA.name_mk, NodeA.num_mk, NodeA.kids_mk, aggV, i64V, u32V, strV, List.map_cons, List.map_nil]); exact ⟨⟨.refl _, .refl _, .refl _, .nil _ _, .nil _ _, .rows (by (try simp only [slD, NodeA.enc_eta, RatA.enc_eta, NodeA.op_mk, NodeA.name_mk, NodeA.num_mk, NodeA.kids_mk, aggV, i64V, u32V, strV, List.map_cons, List.map_nil]); exact ⟨⟨.refl _, .refl _, .refl _, .nil _ _, .nil _ _, .nil _ _, trivial⟩, ⟨.refl _, .refl _, .refl _, .nil _ _, .nil _ _, .nil _ _, trivial⟩, trivial⟩), trivial⟩, trivial⟩))), trivial⟩, .aggL ⟨.same _, .same _, .same _, .nil, .nil, .d (.dn (.rows (by (try simp only [slD, NodeA.enc_eta, RatA.enc_eta, NodeA.op_mk, NodeA.name_mk, NodeA.num_mk, NodeA.kids_mk, aggV, i64V, u32V, strV, List.map_cons, List.map_nil]); exact ⟨⟨.refl _, .refl _, .refl _, .nil _ _, .nil _ _, .rows (by (try simp only [slD, NodeA.enc_eta, RatA.enc_eta, NodeA.op_mk, NodeA.name_mk, NodeA.num_mk, NodeA.kids_mk, aggV, i64V, u32V, strV, List.map_cons, List.map_nil]); exact ⟨⟨.refl _, .refl _, .refl _, .nil _ _, .nil _ _, .nil _ _, trivial⟩, ⟨.refl _, .refl _, .refl _, .nil _ _, .nil _ _, .nil _ _, trivial⟩, trivial⟩), trivial⟩, trivial⟩))), trivial⟩, trivial⟩ (by simp only [go_sem, reduceEqDiff, reduceAdd, reduceSub, reduceMul, reduceLeDiff, reduceLT, Nat.reduceBEq, reduceIte]) ?_
 refine ns ?_
 refine AW.kr [0, 1, 2] [2, 3, 4, 5, 6, 7] ?_
 apply bE h; intro r5 hx6 h
 have hc := rename_Bound_ok (h := hx6)
 try simp only [slD, NodeA.enc_eta, RatA.enc_eta, NodeA.op_mk, NodeA.name_mk, NodeA.num_mk, NodeA.kids_mk, aggV, i64V, u32V, strV, List.map_cons, List.map_nil] at hc
 refine callK_conv hc ⟨.aggL ⟨.same _, .same _, .same _, .nil, .nil, .d (.dn (.rows (by (try simp only [slD, NodeA.enc_eta, RatA.enc_eta, NodeA.op_mk, NodeA.name_mk, NodeA.num_mk, NodeA.kids_mk, aggV, i64V, u32V, strV, List.map_cons, List.map_nil]); exact ⟨⟨.refl _, .refl _, .refl _, .nil _ _, .nil _ _, .rows (by (try simp only [slD, NodeA.enc_eta, RatA.enc_eta, NodeA.op_mk, NodeA.name_mk, NodeA.num_mk, NodeA.kids_mk, aggV, i64V, u32V, strV, List.map_cons, List.map_nil]); exact ⟨⟨.refl _, .refl _, .refl _, .nil _ _, .nil _ _, .nil _ _, trivial⟩, ⟨.refl _, .refl _, .refl _, .nil _ _, .nil _ _, .nil _ _, trivial⟩, trivial⟩), trivial⟩, trivial⟩))), trivial⟩, .nil, .same _, trivial⟩ (by simp only [go_sem, reduceEqDiff, reduceAdd, reduceSub, reduceMul, reduceLeDiff, reduceLT, Nat.reduceBEq, reduceIte]) ?_
 refine ns ?_
 refine AW.kr [1, 2] [3, 4, 5, 6, 7, 9] ?_
 refine sK h (fun hb7 h => ?_) fun hb7 h => ?_
 ·apply bE h; intro r8 hx9 h
  have hc := r08_Equal_ok (h := hx9)
  try simp only [slD, NodeA.enc_eta, RatA.enc_eta, NodeA.op_mk, NodeA.name_mk, NodeA.num_mk, NodeA.kids_mk, aggV, i64V, u32V, strV, List.map_cons, List.map_nil] at hc
  refine callK_conv hc ⟨.same _, .aggL ⟨.same _, .same _, .same _, .nil, .nil, .d (.dn (.rows (by (try simp only [slD, NodeA.enc_eta, RatA.enc_eta, NodeA.op_mk, NodeA.name_mk, NodeA.num_mk, NodeA.kids_mk, aggV, i64V, u32V, strV, List.map_cons, List.map_nil]); exact ⟨⟨.refl _, .refl _, .refl _, .nil _ _, .nil _ _, .rows (by (try simp only [slD, NodeA.enc_eta, RatA.enc_eta, NodeA.op_mk, NodeA.name_mk, NodeA.num_mk, NodeA.kids_mk, aggV, i64V, u32V, strV, List.map_cons, List.map_nil]); exact ⟨⟨.refl _, .refl _, .refl _, .nil _ _, .nil _ _, .nil _ _, trivial⟩, ⟨.refl _, .refl _, .refl _, .nil _ _, .nil _ _, .nil _ _, trivial⟩, trivial⟩), trivial⟩, trivial⟩))), trivial⟩, trivial⟩ (by simp only [go_sem, reduceEqDiff, reduceAdd, reduceSub, reduceMul, reduceLeDiff, reduceLT, Nat.reduceBEq, reduceIte]) ?_
  refine ns ?_
  refine sK h (fun hb10 h => ?_) fun hb10 h => ?_
  ·refine sK h (fun hb11 h => ?_) fun hb11 h => ?_
   ·refine sK h (fun hb12 h => ?_) fun hb12 h => ?_
    ·refine AW.ret ?_
     cases h; refine nz ?_; exact .same _
    refine AW.ret ?_
    cases h; refine nz ?_; exact .same _
   refine AW.ret ?_
   cases h; refine nz ?_; exact .same _
  refine AW.ret ?_
  cases h; refine nz ?_; exact .same _
 refine AW.ret ?_
 cases h; refine nz ?_; exact .same _
/-! ### isochrone/isochroneref08.Levels -/
def r08_Levels_body (K : Nat) (self15 : NodeA → Option Int) (p0 : NodeA) : Option Int := ((iter (S := Int × Int) (R := Int) K (fun again (i1_0, i1_1) =>
  if (decide (i1_1 < (p0.kids.length : Int))) then
   (idx p0.kids i1_1).bind fun x6 =>
   (self15 (x6)).bind fun r8 =>
   again ((if r8 > i1_0 then r8 else i1_0), IntKind.wrap .i64 (i1_1 + (1 : Int)))
  else
   some i1_0) ((0 : Int), (0 : Int))) : Option Int).bind (fun e2_0 =>
 some (IntKind.wrap .i64 (e2_0 + (1 : Int))))
set_option maxHeartbeats 4000000 in
theorem r08_Levels_step (K : Nat) (self15 : NodeA → Option Int) (hself15 : ∀ (q : NodeA) (r : Int), self15 q = some r → Cn Tryz.prog 15 [aggV q.enc] (.d (.val (.int .i64 r)))) (p0 : NodeA) (r : Int) (h : r08_Levels_body K self15 p0 = some r) : Cn Tryz.prog 15 [aggV p0.enc] (.d (.val (.int .i64 r))) := by
 refine Cn.oz Tryz.func15 Tryz.call15 Tryz.ntmps15 Tryz.results15 fun hfit => ?_
 unfold r08_Levels_body at h
 refine AW.kr [] [0] ?_
 refine AW.kr [0] [1] ?_
 refine AW.ks [0] [1, 3] ?_
 refine AW.one ?_
 refine AW.ro ?_
 refine AW.ks [0] [1, 3, 4] ?_
 refine AW.lm h (fun e2_0 => [(3, vI e2_0)]) (fun e2_0 => []) (fun (i1_0, i1_1) => [(1, .ptr 0 6 0 0), (3, vI i1_0), (4, vI i1_1)]) (fun (i1_0, i1_1) => [vE p0.enc]) [0] (fun oJ4 again ⟨i1_0, i1_1⟩ h => ?_) fun e2_0 h => ?_
 ·try dsimp only at h
  refine AW.one ?_
  refine AW.ro ?_
  refine AW.ks [0] [1, 3, 4, 9] ?_
  refine AW.tt h (fun hb5 h => ?_) fun hb5 h => ?_
  ·refine AW.sk ?_
   refine AW.ks [0] [1, 3, 4] ?_
   refine AW.one ?_
   refine AW.block ?_
   refine AW.rp ?_
   refine bx h fun x6 h0 h1 h => ?_
   refine cm h (hself15 _ _) fun r8 hx9 h => ?_
   refine AW.ks [0] [1, 3, 4] ?_
   refine AW.rp ?_
   exact na [0] h
  refine AW.ex ?_
  exact ja [] h
 refine AW.kr [] [3] ?_
 refine AW.ret ?_
 cases h; refine nz ?_; exact .same _
def r08_Levels (K : Nat) (p0 : NodeA) : Option Int := iter K (fun self q => r08_Levels_body K self q) p0
theorem key_r08_Levels {K : Nat} (k : Nat) : (∀ (q : NodeA) (r : Int), iter k (fun self q => r08_Levels_body K self q) q = some r → Cn Tryz.prog 15 [aggV q.enc] (.d (.val (.int .i64 r)))) := by
 induction k with
 | zero => exact fun q r h => by cases h
 | succ k ih => exact fun q r h => r08_Levels_step K _ ih q r h
theorem r08_Levels_ok {K : Nat} {p0 : NodeA} {r : Int} (h : r08_Levels K p0 = some r) : Cn Tryz.prog 15 [aggV p0.enc] (.d (.val (.int .i64 r))) := (key_r08_Levels K) p0 r h
/-! ### isochrone/isochroneref08.Size -/
def r08_Size_body (K : Nat) (self5 : NodeA → Option Int) (p0 : NodeA) : Option Int := ((iter (S := Int × Int) (R := Int) K (fun again (i1_0, i1_1) =>
  if (decide (i1_1 < (p0.kids.length : Int))) then
   (idx p0.kids i1_1).bind fun x6 =>
   (self5 (x6)).bind fun r8 =>
   again (IntKind.wrap .i64 (i1_0 + r8), IntKind.wrap .i64 (i1_1 + (1 : Int)))
  else
   some i1_0) ((1 : Int), (0 : Int))) : Option Int).bind (fun e2_0 =>
 some e2_0)
set_option maxHeartbeats 4000000 in
theorem r08_Size_step (K : Nat) (self5 : NodeA → Option Int) (hself5 : ∀ (q : NodeA) (r : Int), self5 q = some r → Cn Tryz.prog 5 [aggV q.enc] (.d (.val (.int .i64 r)))) (p0 : NodeA) (r : Int) (h : r08_Size_body K self5 p0 = some r) : Cn Tryz.prog 5 [aggV p0.enc] (.d (.val (.int .i64 r))) := by
 refine Cn.oz Tryz.func5 Tryz.call5 Tryz.ntmps5 Tryz.results5 fun hfit => ?_
 unfold r08_Size_body at h
 refine AW.kr [] [0] ?_
 refine AW.kr [0] [1] ?_
 refine AW.ks [0] [1, 3] ?_
 refine AW.one ?_
 refine AW.ro ?_
 refine AW.ks [0] [1, 3, 4] ?_
 refine AW.lm h (fun e2_0 => [(3, vI e2_0)]) (fun e2_0 => []) (fun (i1_0, i1_1) => [(1, .ptr 0 6 0 0), (3, vI i1_0), (4, vI i1_1)]) (fun (i1_0, i1_1) => [vE p0.enc]) [0] (fun oJ4 again ⟨i1_0, i1_1⟩ h => ?_) fun e2_0 h => ?_
 ·try dsimp only at h
  refine AW.one ?_
  refine AW.ro ?_
  refine AW.ks [0] [1, 3, 4, 9] ?_
  refine AW.tt h (fun hb5 h => ?_) fun hb5 h => ?_
  ·refine AW.sk ?_
   refine AW.ks [0] [1, 3, 4] ?_
   refine AW.one ?_
   refine AW.block ?_
   refine AW.rp ?_
   refine bx h fun x6 h0 h1 h => ?_
   refine cm h (hself5 _ _) fun r8 hx9 h => ?_
   refine AW.ks [0] [1, 3, 4] ?_
   refine AW.rp ?_
   exact na [0] h
  refine AW.ex ?_
  exact ja [] h
 refine AW.kr [] [3] ?_
 refine AW.ret ?_
 cases h; refine nz ?_; exact .same _
def r08_Size (K : Nat) (p0 : NodeA) : Option Int := iter K (fun self q => r08_Size_body K self q) p0
theorem key_r08_Size {K : Nat} (k : Nat) : (∀ (q : NodeA) (r : Int), iter k (fun self q => r08_Size_body K self q) q = some r → Cn Tryz.prog 5 [aggV q.enc] (.d (.val (.int .i64 r)))) := by
 induction k with
 | zero => exact fun q r h => by cases h
 | succ k ih => exact fun q r h => r08_Size_step K _ ih q r h
theorem r08_Size_ok {K : Nat} {p0 : NodeA} {r : Int} (h : r08_Size K p0 = some r) : Cn Tryz.prog 5 [aggV p0.enc] (.d (.val (.int .i64 r))) := (key_r08_Size K) p0 r h
/-! ### isochrone/isochroneref08.Sort -/
def r08_Sort (K : Nat) (p0 : Int) : Option Int := ((
  if (decide ((1 : Int) ≤ p0)) then
   some (decide (p0 ≤ (13 : Int)))
  else
   some false) : Option Bool).bind (fun v1_0 =>
 if v1_0 then
  some (1 : Int)
 else
  ((
   if (decide ((20 : Int) ≤ p0)) then
    some (decide (p0 ≤ (39 : Int)))
   else
    some false) : Option Bool).bind (fun v5_0 =>
  if v5_0 then
   some (2 : Int)
  else
   ((
    if (p0 == (55 : Int)) then
     some true
    else
     some (p0 == (56 : Int))) : Option Bool).bind (fun v9_0 =>
   if v9_0 then
    some (4 : Int)
   else
    ((
     if (decide ((50 : Int) ≤ p0)) then
      some (decide (p0 ≤ (62 : Int)))
     else
      some false) : Option Bool).bind (fun v13_0 =>
    if v13_0 then
     some (3 : Int)
    else
     some (0 : Int)))))
set_option maxHeartbeats 4000000 in
theorem r08_Sort_ok {K : Nat} {p0 : Int} {r : Int} (h : r08_Sort K p0 = some r) : Cn Tryz.prog 16 [.d (.val (.int .i64 p0))] (.d (.val (.int .i64 r))) := by
 refine Cn.oz Tryz.func16 Tryz.call16 Tryz.ntmps16 Tryz.results16 fun hfit => ?_
 unfold r08_Sort at h
 refine AW.kr [] [0] ?_
 refine AW.ks [] [0] ?_
 refine AW.one ?_
 refine AW.block ?_
 refine AW.jn h (fun v1_0 => [(0, vI p0), (3, vB v1_0)]) (fun v1_0 => []) (fun oJ2 h => ?_) fun v1_0 h => ?_
 ·refine AW.rp ?_
  refine sK h (fun hb3 h => ?_) fun hb3 h => ?_
  ·exact ja [] h
  exact ja [] h
 refine AW.tt h (fun hb4 h => ?_) fun hb4 h => ?_
 ·refine AW.ro ?_
  refine AW.ret ?_
  cases h; refine nz ?_; exact .same _
 refine AW.jn h (fun v5_0 => [(0, vI p0), (10, vB v5_0)]) (fun v5_0 => []) (fun oJ6 h => ?_) fun v5_0 h => ?_
 ·refine AW.rp ?_
  refine sK h (fun hb7 h => ?_) fun hb7 h => ?_
  ·exact ja [] h
  exact ja [] h
 refine AW.tt h (fun hb8 h => ?_) fun hb8 h => ?_
 ·refine AW.ro ?_
  refine AW.ret ?_
  cases h; refine nz ?_; exact .same _
 refine AW.jn h (fun v9_0 => [(0, vI p0), (17, vB v9_0)]) (fun v9_0 => []) (fun oJ10 h => ?_) fun v9_0 h => ?_
 ·refine AW.rp ?_
  refine sK h (fun hb11 h => ?_) fun hb11 h => ?_
  ·exact ja [] h
  exact ja [] h
 refine AW.tt h (fun hb12 h => ?_) fun hb12 h => ?_
 ·refine AW.ro ?_
  refine AW.ret ?_
  cases h; refine nz ?_; exact .same _
 refine AW.jn h (fun v13_0 => [(24, vB v13_0)]) (fun v13_0 => []) (fun oJ14 h => ?_) fun v13_0 h => ?_
 ·refine AW.rp ?_
  refine sK h (fun hb15 h => ?_) fun hb15 h => ?_
  ·exact ja [] h
  exact ja [] h
 refine AW.tk h (fun hb16 h => ?_) fun hb16 h => ?_
 ·refine AW.ro ?_
  refine AW.ret ?_
  cases h; refine nz ?_; exact .same _
 refine AW.kr [] [] ?_
 refine AW.ret ?_
 cases h; refine nz ?_; exact .same _
/-! ### isochrone/isochroneref08.letter -/
def r08_letter (K : Nat) (p0 : Int) : Option Bool := if (decide ((97 : Int) ≤ p0)) then
  if (decide (p0 ≤ (122 : Int))) then
   some true
  else
   if (decide ((65 : Int) ≤ p0)) then
    some (decide (p0 ≤ (90 : Int)))
   else
    some false
 else
  if (decide ((65 : Int) ≤ p0)) then
   some (decide (p0 ≤ (90 : Int)))
  else
   some false
set_option maxHeartbeats 4000000 in
theorem r08_letter_ok {K : Nat} {p0 : Int} {r : Bool} (h : r08_letter K p0 = some r) : Cn Tryz.prog 90 [.d (.val (.int .u8 p0))] (.d (.val (.bool r))) := by
 refine Cn.oz Tryz.func90 Tryz.call90 Tryz.ntmps90 Tryz.results90 fun hfit => ?_
 unfold r08_letter at h
 refine AW.kr [] [0] ?_
 refine AW.kr [] [0] ?_
 refine sK h (fun hb1 h => ?_) fun hb1 h => ?_
 ·refine sK h (fun hb2 h => ?_) fun hb2 h => ?_
  ·refine AW.ret ?_
   cases h; refine nz ?_; exact .same _
  refine sK h (fun hb3 h => ?_) fun hb3 h => ?_
  ·refine AW.ret ?_
   cases h; refine nz ?_; exact .same _
  refine AW.ret ?_
  cases h; refine nz ?_; exact .same _
 refine sK h (fun hb4 h => ?_) fun hb4 h => ?_
 ·refine AW.ret ?_
  cases h; refine nz ?_; exact .same _
 refine AW.ret ?_
 cases h; refine nz ?_; exact .same _
/-! ### isochrone/isochroneref08.Name -/
def r08_Name (K : Nat) (p0 : ByteArray) : Option Bool := ((
  ((
   if ((p0.size : Int) == (0 : Int)) then
    some true
   else
    if (decide ((12 : Int) < (p0.size : Int))) then
     some true
    else
     if (p0.toList == (⟨#[116, 114, 117, 101]⟩ : ByteArray).toList) then
      some true
     else
      if (p0.toList == (⟨#[102, 97, 108, 115, 101]⟩ : ByteArray).toList) then
       some true
      else
       if (p0.toList == (⟨#[102, 111, 114, 97, 108, 108]⟩ : ByteArray).toList) then
        some true
       else
        some (p0.toList == (⟨#[101, 120, 105, 115, 116, 115]⟩ : ByteArray).toList)) : Option Bool).bind (fun v3_0 =>
  if v3_0 then
   outM (
    some false)
  else
   some (.go ()))) : Option (Out Unit _)).bind (Out.fin fun _ =>
 ((iter (S := Int) (R := Out Unit _) K (fun again i11_0 =>
  if (decide (i11_0 < (p0.size : Int))) then
   ((
    ((
     (strAt p0 i11_0).bind fun c20 =>
     (r08_letter K (c20.toNat : Int)).bind fun r22 =>
     if (!r22) then
      if (i11_0 == (0 : Int)) then
       some true
      else
       if (decide ((c20.toNat : Int) < (48 : Int))) then
        some true
       else
        some (decide ((57 : Int) < (c20.toNat : Int)))
     else
      some false) : Option Bool).bind (fun v18_0 =>
    if v18_0 then
     outM (
      outM (
       some false))
    else
     some (.go ()))) : Option (Out Unit _)).bind (Out.fin fun _ =>
   again (IntKind.wrap .i64 (i11_0 + (1 : Int))))
  else
   some (.go ())) (0 : Int)) : Option (Out Unit _)).bind (Out.fin fun _ =>
 some true))
set_option maxHeartbeats 4000000 in
theorem r08_Name_ok {K : Nat} {p0 : ByteArray} {r : Bool} (h : r08_Name K p0 = some r) : Cn Tryz.prog 45 [.d (.val (.string p0))] (.d (.val (.bool r))) := by
 refine Cn.oz Tryz.func45 Tryz.call45 Tryz.ntmps45 Tryz.results45 fun hfit => ?_
 unfold r08_Name at h
 refine AW.kr [] [0] ?_
 refine AW.ks [] [0] ?_
 refine AW.jo h (fun _ => [(0, vS p0)]) (fun _ => []) (fun oJ2 h hJ2 => ?_) fun ⟨⟩ h => ?_
 ·refine AW.jn h (fun v3_0 => [(0, vS p0), (27, vB v3_0)]) (fun v3_0 => []) (fun oJ4 h => ?_) fun v3_0 h => ?_
  ·refine AW.rp ?_
   refine sK h (fun hb5 h => ?_) fun hb5 h => ?_
   ·exact ja [] h
   refine sK h (fun hb6 h => ?_) fun hb6 h => ?_
   ·exact ja [] h
   refine sK h (fun hb7 h => ?_) fun hb7 h => ?_
   ·exact ja [] h
   refine sK h (fun hb8 h => ?_) fun hb8 h => ?_
   ·exact ja [] h
   refine sK h (fun hb9 h => ?_) fun hb9 h => ?_
   ·exact ja [] h
   exact ja [] h
  refine AW.tk h (fun hb10 h => ?_) fun hb10 h => ?_
  ·refine AW.ro ?_
   refine AW.ret ?_
   have h := up h hJ2
   cases h; refine nz ?_; exact .same _
  exact jo [] h
 refine AW.one ?_
 refine AW.ro ?_
 refine AW.ks [] [0, 3] ?_
 refine AW.lp h (fun _ => []) (fun _ => []) (fun i11_0 => [(0, vS p0), (3, vI i11_0)]) (fun i11_0 => []) [] (fun oJ14 hJ14 again i11_0 h => ?_) fun ⟨⟩ h => ?_
 ·refine AW.one ?_
  refine AW.ro ?_
  refine AW.ks [] [0, 3, 31] ?_
  refine AW.tt h (fun hb15 h => ?_) fun hb15 h => ?_
  ·refine AW.sk ?_
   refine AW.ks [] [0, 3] ?_
   refine AW.jo h (fun _ => [(0, vS p0), (3, vI i11_0)]) (fun _ => []) (fun oJ17 h hJ17 => ?_) fun ⟨⟩ h => ?_
   ·refine AW.block ?_
    refine AW.jn h (fun v18_0 => [(0, vS p0), (3, vI i11_0), (54, vB v18_0)]) (fun v18_0 => []) (fun oJ19 h => ?_) fun v18_0 h => ?_
    ·refine AW.rp ?_
     refine bb h fun c20 hx21 h => ?_
     refine cm h r08_letter_ok fun r22 hx23 h => ?_
     refine sK h (fun hb24 h => ?_) fun hb24 h => ?_
     ·refine sK h (fun hb25 h => ?_) fun hb25 h => ?_
      ·exact ja [] h
      refine sK h (fun hb26 h => ?_) fun hb26 h => ?_
      ·exact ja [] h
      exact ja [] h
     exact ja [] h
    refine AW.tk h (fun hb27 h => ?_) fun hb27 h => ?_
    ·refine AW.ro ?_
     refine AW.ret ?_
     have h := up h hJ17
     have h := up h hJ14
     cases h; refine nz ?_; exact .same _
    exact jo [] h
   refine AW.rp ?_
   exact na [] h
  refine AW.ex ?_
  exact jo [] h
 refine AW.kr [] [] ?_
 refine AW.ret ?_
 cases h; refine nz ?_; exact .same _
/-! ### isochrone/isochroneref08.Natural -/
def r08_Natural (K : Nat) (p0 : RatA) (p1 : Int) : Option Int := if ((p0.num.length : Int) == (0 : Int)) then
  some (0 : Int)
 else
  ((
   ((
    if (decide ((1 : Int) < (p0.num.length : Int))) then
     some true
    else
     (idx p0.num (0 : Int)).bind fun x7 =>
     some (decide (p1 < (IntKind.wrap .i64 x7)))) : Option Bool).bind (fun v4_0 =>
   if v4_0 then
    outM (
     some (-1 : Int))
   else
    some (.go ()))) : Option (Out Unit _)).bind (Out.fin fun _ =>
  (idx p0.num (0 : Int)).bind fun x10 =>
  some (IntKind.wrap .i64 x10))
set_option maxHeartbeats 4000000 in
theorem r08_Natural_ok {K : Nat} {p0 : RatA} {p1 : Int} {r : Int} (h : r08_Natural K p0 p1 = some r) : Cn Tryz.prog 49 [aggV p0.enc, .d (.val (.int .i64 p1))] (.d (.val (.int .i64 r))) := by
 have q0 := fun k z => cv_int (k' := k) (z := z) Tryz.underlying120 Tryz.underlying2
 have q1 := fun k z => cv_int (k' := k) (z := z) Tryz.underlying120 Tryz.underlying3
 refine Cn.oz Tryz.func49 Tryz.call49 Tryz.ntmps49 Tryz.results49 fun hfit => ?_
 unfold r08_Natural at h
 refine AW.kr [] [0, 1] ?_
 refine AW.ks [0] [1, 2] ?_
 refine AW.one ?_
 refine AW.ro ?_
 refine AW.ks [0] [1, 2, 8] ?_
 refine AW.tk h (fun hb1 h => ?_) fun hb1 h => ?_
 ·refine AW.ro ?_
  refine AW.ret ?_
  cases h; refine nz ?_; exact .same _
 refine AW.ks [0] [1, 2] ?_
 refine AW.jo h (fun _ => [(2, .ptr 0 3 0 0)]) (fun _ => [vE p0.enc]) (fun oJ3 h hJ3 => ?_) fun ⟨⟩ h => ?_
 ·refine AW.jn h (fun v4_0 => [(2, .ptr 0 3 0 0), (21, vB v4_0)]) (fun v4_0 => [vE p0.enc]) (fun oJ5 h => ?_) fun v4_0 h => ?_
  ·refine AW.rp ?_
   refine sK h (fun hb6 h => ?_) fun hb6 h => ?_
   ·exact ja [0] h
   refine bx h fun x7 h0 h1 h => ?_
   exact ja [0] h
  refine AW.tk h (fun hb9 h => ?_) fun hb9 h => ?_
  ·refine AW.ro ?_
   refine AW.ret ?_
   have h := up h hJ3
   cases h; refine nz ?_; exact .same _
  exact jo [0] h
 refine AW.ro ?_
 refine bx h fun x10 h0 h1 h => ?_
 refine AW.ret ?_
 cases h; refine nz ?_; exact .same _
/-! ### isochrone/isochroneref08.differential -/
def r08_differential_body (K : Nat) (self50 : NodeA → Option Bool) (p0 : NodeA) : Option Bool := ((
  if (p0.op == (20 : Int)) then
   some true
  else
   if (p0.op == (21 : Int)) then
    some true
   else
    if (decide ((22 : Int) ≤ p0.op)) then
     if (decide (p0.op ≤ (27 : Int))) then
      some true
     else
      if (p0.op == (37 : Int)) then
       some true
      else
       some (p0.op == (38 : Int))
    else
     if (p0.op == (37 : Int)) then
      some true
     else
      some (p0.op == (38 : Int))) : Option Bool).bind (fun v1_0 =>
 if v1_0 then
  some true
 else
  ((
   if (p0.op == (29 : Int)) then
    some true
   else
    some (p0.op == (30 : Int))) : Option Bool).bind (fun v10_0 =>
  if v10_0 then
   ((iter (S := Int) (R := Out Unit _) K (fun again i14_0 =>
    if (decide (i14_0 < (p0.kids.length : Int))) then
     (idx p0.kids i14_0).bind fun x19 =>
     (self50 (x19)).bind fun r21 =>
     if (!r21) then
      outM (
       some false)
     else
      again (IntKind.wrap .i64 (i14_0 + (1 : Int)))
    else
     some (.go ())) (0 : Int)) : Option (Out Unit _)).bind (Out.fin fun _ =>
   some true)
  else
   some false))
set_option maxHeartbeats 4000000 in
theorem r08_differential_step (K : Nat) (self50 : NodeA → Option Bool) (hself50 : ∀ (q : NodeA) (r : Bool), self50 q = some r → Cn Tryz.prog 50 [aggV q.enc] (.d (.val (.bool r)))) (p0 : NodeA) (r : Bool) (h : r08_differential_body K self50 p0 = some r) : Cn Tryz.prog 50 [aggV p0.enc] (.d (.val (.bool r))) := by
 refine Cn.oz Tryz.func50 Tryz.call50 Tryz.ntmps50 Tryz.results50 fun hfit => ?_
 unfold r08_differential_body at h
 refine AW.kr [] [0] ?_
 refine AW.ks [0] [1] ?_
 refine AW.one ?_
 refine AW.block ?_
 refine AW.jn h (fun v1_0 => [(1, .ptr 0 6 0 0), (4, vB v1_0)]) (fun v1_0 => [vE p0.enc]) (fun oJ2 h => ?_) fun v1_0 h => ?_
 ·refine AW.rp ?_
  refine sK h (fun hb3 h => ?_) fun hb3 h => ?_
  ·exact ja [0] h
  refine sK h (fun hb4 h => ?_) fun hb4 h => ?_
  ·exact ja [0] h
  refine sK h (fun hb5 h => ?_) fun hb5 h => ?_
  ·refine sK h (fun hb6 h => ?_) fun hb6 h => ?_
   ·exact ja [0] h
   refine sK h (fun hb7 h => ?_) fun hb7 h => ?_
   ·exact ja [0] h
   exact ja [0] h
  refine sK h (fun hb8 h => ?_) fun hb8 h => ?_
  ·exact ja [0] h
  exact ja [0] h
 refine AW.tt h (fun hb9 h => ?_) fun hb9 h => ?_
 ·refine AW.ro ?_
  refine AW.ret ?_
  cases h; refine nz ?_; exact .same _
 refine AW.jn h (fun v10_0 => [(1, .ptr 0 6 0 0), (33, vB v10_0)]) (fun v10_0 => [vE p0.enc]) (fun oJ11 h => ?_) fun v10_0 h => ?_
 ·refine AW.rp ?_
  refine sK h (fun hb12 h => ?_) fun hb12 h => ?_
  ·exact ja [0] h
  exact ja [0] h
 refine AW.tk h (fun hb13 h => ?_) fun hb13 h => ?_
 ·refine AW.one ?_
  refine AW.ro ?_
  refine AW.ks [0] [1, 3] ?_
  refine AW.lp h (fun _ => []) (fun _ => []) (fun i14_0 => [(1, .ptr 0 6 0 0), (3, vI i14_0)]) (fun i14_0 => [vE p0.enc]) [0] (fun oJ17 hJ17 again i14_0 h => ?_) fun ⟨⟩ h => ?_
  ·refine AW.one ?_
   refine AW.ro ?_
   refine AW.ks [0] [1, 3, 46] ?_
   refine AW.tt h (fun hb18 h => ?_) fun hb18 h => ?_
   ·refine AW.sk ?_
    refine AW.ks [0] [1, 3] ?_
    refine AW.one ?_
    refine AW.block ?_
    refine AW.ro ?_
    refine bx h fun x19 h0 h1 h => ?_
    refine cm h (hself50 _ _) fun r21 hx22 h => ?_
    refine AW.ks [0] [1, 3, 55] ?_
    refine AW.tk h (fun hb23 h => ?_) fun hb23 h => ?_
    ·refine AW.ro ?_
     refine AW.ret ?_
     have h := up h hJ17
     cases h; refine nz ?_; exact .same _
    refine AW.ks [0] [1, 3] ?_
    refine AW.rp ?_
    exact na [0] h
   refine AW.ex ?_
   exact jo [] h
  refine AW.kr [] [] ?_
  refine AW.ret ?_
  cases h; refine nz ?_; exact .same _
 refine AW.kr [] [] ?_
 refine AW.ret ?_
 cases h; refine nz ?_; exact .same _
def r08_differential (K : Nat) (p0 : NodeA) : Option Bool := iter K (fun self q => r08_differential_body K self q) p0
theorem key_r08_differential {K : Nat} (k : Nat) : (∀ (q : NodeA) (r : Bool), iter k (fun self q => r08_differential_body K self q) q = some r → Cn Tryz.prog 50 [aggV q.enc] (.d (.val (.bool r)))) := by
 induction k with
 | zero => exact fun q r h => by cases h
 | succ k ih => exact fun q r h => r08_differential_step K _ ih q r h
theorem r08_differential_ok {K : Nat} {p0 : NodeA} {r : Bool} (h : r08_differential K p0 = some r) : Cn Tryz.prog 50 [aggV p0.enc] (.d (.val (.bool r))) := (key_r08_differential K) p0 r h
/-! ### isochrone/isochroneref08.kids -/
def r08_kids (K : Nat) (p0 : Int) : Option ByteArray := ((
  if (p0 == (4 : Int)) then
   some (p0 == (4 : Int))
  else
   if (p0 == (12 : Int)) then
    some (p0 == (12 : Int))
   else
    if (p0 == (50 : Int)) then
     some (p0 == (50 : Int))
    else
     if (p0 == (51 : Int)) then
      some (p0 == (51 : Int))
     else
      some (p0 == (55 : Int))) : Option Bool).bind (fun v1_0 =>
 if v1_0 then
  some (⟨#[49]⟩ : ByteArray)
 else
  ((
   if (p0 == (5 : Int)) then
    some (p0 == (5 : Int))
   else
    if (p0 == (6 : Int)) then
     some (p0 == (6 : Int))
    else
     if (p0 == (7 : Int)) then
      some (p0 == (7 : Int))
     else
      if (p0 == (8 : Int)) then
       some (p0 == (8 : Int))
      else
       if (p0 == (9 : Int)) then
        some (p0 == (9 : Int))
       else
        if (p0 == (22 : Int)) then
         some (p0 == (22 : Int))
        else
         if (p0 == (23 : Int)) then
          some (p0 == (23 : Int))
         else
          if (p0 == (24 : Int)) then
           some (p0 == (24 : Int))
          else
           if (p0 == (25 : Int)) then
            some (p0 == (25 : Int))
           else
            if (p0 == (26 : Int)) then
             some (p0 == (26 : Int))
            else
             some (p0 == (27 : Int))) : Option Bool).bind (fun v8_0 =>
  if v8_0 then
   some (⟨#[49, 49]⟩ : ByteArray)
  else
   ((
    if (p0 == (28 : Int)) then
     some (p0 == (28 : Int))
    else
     if (p0 == (33 : Int)) then
      some (p0 == (33 : Int))
     else
      if (p0 == (34 : Int)) then
       some (p0 == (34 : Int))
      else
       if (p0 == (39 : Int)) then
        some (p0 == (39 : Int))
       else
        some (p0 == (53 : Int))) : Option Bool).bind (fun v21_0 =>
   if v21_0 then
    some (⟨#[50]⟩ : ByteArray)
   else
    ((
     if (p0 == (29 : Int)) then
      some (p0 == (29 : Int))
     else
      if (p0 == (30 : Int)) then
       some (p0 == (30 : Int))
      else
       if (p0 == (31 : Int)) then
        some (p0 == (31 : Int))
       else
        some (p0 == (32 : Int))) : Option Bool).bind (fun v28_0 =>
    if v28_0 then
     some (⟨#[50, 50]⟩ : ByteArray)
    else
     ((
      if (p0 == (35 : Int)) then
       some (p0 == (35 : Int))
      else
       some (p0 == (36 : Int))) : Option Bool).bind (fun v34_0 =>
     if v34_0 then
      some (⟨#[51, 50]⟩ : ByteArray)
     else
      ((
       if (p0 == (57 : Int)) then
        some (p0 == (57 : Int))
       else
        some (p0 == (58 : Int))) : Option Bool).bind (fun v38_0 =>
      if v38_0 then
       some (⟨#[51, 51]⟩ : ByteArray)
      else
       ((
        if (p0 == (59 : Int)) then
         some (p0 == (59 : Int))
        else
         some (p0 == (60 : Int))) : Option Bool).bind (fun v42_0 =>
       if v42_0 then
        some (⟨#[51]⟩ : ByteArray)
       else
        some (⟨#[]⟩ : ByteArray))))))))
set_option maxHeartbeats 4000000 in
theorem r08_kids_ok {K : Nat} {p0 : Int} {r : ByteArray} (h : r08_kids K p0 = some r) : Cn Tryz.prog 48 [.d (.val (.int .i64 p0))] (.d (.val (.string r))) := by
 refine Cn.oz Tryz.func48 Tryz.call48 Tryz.ntmps48 Tryz.results48 fun hfit => ?_
 unfold r08_kids at h
 refine AW.kr [] [0] ?_
 refine AW.ks [] [0] ?_
 refine AW.one ?_
 refine AW.ro ?_
 refine AW.ks [] [3] ?_
 refine AW.block ?_
 refine AW.jn h (fun v1_0 => [(3, vI p0), (4, vB v1_0)]) (fun v1_0 => []) (fun oJ2 h => ?_) fun v1_0 h => ?_
 ·refine AW.ro ?_
  refine AW.ks [] [3, 4] ?_
  refine AW.tt h (fun hb3 h => ?_) fun hb3 h => ?_
  ·refine AW.sk ?_
   exact ja [] h
  refine AW.ro ?_
  refine AW.ks [] [3, 4] ?_
  refine AW.tt h (fun hb4 h => ?_) fun hb4 h => ?_
  ·refine AW.sk ?_
   exact ja [] h
  refine AW.ro ?_
  refine AW.ks [] [3, 4] ?_
  refine AW.tt h (fun hb5 h => ?_) fun hb5 h => ?_
  ·refine AW.sk ?_
   exact ja [] h
  refine AW.ro ?_
  refine AW.ks [] [3, 4] ?_
  refine AW.tt h (fun hb6 h => ?_) fun hb6 h => ?_
  ·refine AW.sk ?_
   exact ja [] h
  refine AW.rp ?_
  exact ja [] h
 refine AW.tt h (fun hb7 h => ?_) fun hb7 h => ?_
 ·refine AW.ro ?_
  refine AW.ret ?_
  cases h; refine nz ?_; exact .same _
 refine AW.jn h (fun v8_0 => [(3, vI p0), (10, vB v8_0)]) (fun v8_0 => []) (fun oJ9 h => ?_) fun v8_0 h => ?_
 ·refine AW.ro ?_
  refine AW.ks [] [3, 10] ?_
  refine AW.tt h (fun hb10 h => ?_) fun hb10 h => ?_
  ·refine AW.sk ?_
   exact ja [] h
  refine AW.ro ?_
  refine AW.ks [] [3, 10] ?_
  refine AW.tt h (fun hb11 h => ?_) fun hb11 h => ?_
  ·refine AW.sk ?_
   exact ja [] h
  refine AW.ro ?_
  refine AW.ks [] [3, 10] ?_
  refine AW.tt h (fun hb12 h => ?_) fun hb12 h => ?_
  ·refine AW.sk ?_
   exact ja [] h
  refine AW.ro ?_
  refine AW.ks [] [3, 10] ?_
  refine AW.tt h (fun hb13 h => ?_) fun hb13 h => ?_
  ·refine AW.sk ?_
   exact ja [] h
  refine AW.ro ?_
  refine AW.ks [] [3, 10] ?_
  refine AW.tt h (fun hb14 h => ?_) fun hb14 h => ?_
  ·refine AW.sk ?_
   exact ja [] h
  refine AW.ro ?_
  refine AW.ks [] [3, 10] ?_
  refine AW.tt h (fun hb15 h => ?_) fun hb15 h => ?_
  ·refine AW.sk ?_
   exact ja [] h
  refine AW.ro ?_
  refine AW.ks [] [3, 10] ?_
  refine AW.tt h (fun hb16 h => ?_) fun hb16 h => ?_
  ·refine AW.sk ?_
   exact ja [] h
  refine AW.ro ?_
  refine AW.ks [] [3, 10] ?_
  refine AW.tt h (fun hb17 h => ?_) fun hb17 h => ?_
  ·refine AW.sk ?_
   exact ja [] h
  refine AW.ro ?_
  refine AW.ks [] [3, 10] ?_
  refine AW.tt h (fun hb18 h => ?_) fun hb18 h => ?_
  ·refine AW.sk ?_
   exact ja [] h
  refine AW.ro ?_
  refine AW.ks [] [3, 10] ?_
  refine AW.tt h (fun hb19 h => ?_) fun hb19 h => ?_
  ·refine AW.sk ?_
   exact ja [] h
  refine AW.rp ?_
  exact ja [] h
 refine AW.tt h (fun hb20 h => ?_) fun hb20 h => ?_
 ·refine AW.ro ?_
  refine AW.ret ?_
  cases h; refine nz ?_; exact .same _
 refine AW.jn h (fun v21_0 => [(3, vI p0), (22, vB v21_0)]) (fun v21_0 => []) (fun oJ22 h => ?_) fun v21_0 h => ?_
 ·refine AW.ro ?_
  refine AW.ks [] [3, 22] ?_
  refine AW.tt h (fun hb23 h => ?_) fun hb23 h => ?_
  ·refine AW.sk ?_
   exact ja [] h
  refine AW.ro ?_
  refine AW.ks [] [3, 22] ?_
  refine AW.tt h (fun hb24 h => ?_) fun hb24 h => ?_
  ·refine AW.sk ?_
   exact ja [] h
  refine AW.ro ?_
  refine AW.ks [] [3, 22] ?_
  refine AW.tt h (fun hb25 h => ?_) fun hb25 h => ?_
  ·refine AW.sk ?_
   exact ja [] h
  refine AW.ro ?_
  refine AW.ks [] [3, 22] ?_
  refine AW.tt h (fun hb26 h => ?_) fun hb26 h => ?_
  ·refine AW.sk ?_
   exact ja [] h
  refine AW.rp ?_
  exact ja [] h
 refine AW.tt h (fun hb27 h => ?_) fun hb27 h => ?_
 ·refine AW.ro ?_
  refine AW.ret ?_
  cases h; refine nz ?_; exact .same _
 refine AW.jn h (fun v28_0 => [(3, vI p0), (28, vB v28_0)]) (fun v28_0 => []) (fun oJ29 h => ?_) fun v28_0 h => ?_
 ·refine AW.ro ?_
  refine AW.ks [] [3, 28] ?_
  refine AW.tt h (fun hb30 h => ?_) fun hb30 h => ?_
  ·refine AW.sk ?_
   exact ja [] h
  refine AW.ro ?_
  refine AW.ks [] [3, 28] ?_
  refine AW.tt h (fun hb31 h => ?_) fun hb31 h => ?_
  ·refine AW.sk ?_
   exact ja [] h
  refine AW.ro ?_
  refine AW.ks [] [3, 28] ?_
  refine AW.tt h (fun hb32 h => ?_) fun hb32 h => ?_
  ·refine AW.sk ?_
   exact ja [] h
  refine AW.rp ?_
  exact ja [] h
 refine AW.tt h (fun hb33 h => ?_) fun hb33 h => ?_
 ·refine AW.ro ?_
  refine AW.ret ?_
  cases h; refine nz ?_; exact .same _
 refine AW.jn h (fun v34_0 => [(3, vI p0), (33, vB v34_0)]) (fun v34_0 => []) (fun oJ35 h => ?_) fun v34_0 h => ?_
 ·refine AW.ro ?_
  refine AW.ks [] [3, 33] ?_
  refine AW.tt h (fun hb36 h => ?_) fun hb36 h => ?_
  ·refine AW.sk ?_
   exact ja [] h
  refine AW.rp ?_
  exact ja [] h
 refine AW.tt h (fun hb37 h => ?_) fun hb37 h => ?_
 ·refine AW.ro ?_
  refine AW.ret ?_
  cases h; refine nz ?_; exact .same _
 refine AW.jn h (fun v38_0 => [(3, vI p0), (36, vB v38_0)]) (fun v38_0 => []) (fun oJ39 h => ?_) fun v38_0 h => ?_
 ·refine AW.ro ?_
  refine AW.ks [] [3, 36] ?_
  refine AW.tt h (fun hb40 h => ?_) fun hb40 h => ?_
  ·refine AW.sk ?_
   exact ja [] h
  refine AW.rp ?_
  exact ja [] h
 refine AW.tt h (fun hb41 h => ?_) fun hb41 h => ?_
 ·refine AW.ro ?_
  refine AW.ret ?_
  cases h; refine nz ?_; exact .same _
 refine AW.jn h (fun v42_0 => [(39, vB v42_0)]) (fun v42_0 => []) (fun oJ43 h => ?_) fun v42_0 h => ?_
 ·refine AW.ro ?_
  refine AW.ks [] [3, 39] ?_
  refine AW.tt h (fun hb44 h => ?_) fun hb44 h => ?_
  ·refine AW.sk ?_
   exact ja [] h
  refine AW.rp ?_
  exact ja [] h
 refine AW.tk h (fun hb45 h => ?_) fun hb45 h => ?_
 ·refine AW.ro ?_
  refine AW.ret ?_
  cases h; refine nz ?_; exact .same _
 refine AW.kr [] [] ?_
 refine AW.ret ?_
 cases h; refine nz ?_; exact .same _
/-! ### isochrone/isochroneref08.named -/
def r08_named (K : Nat) (p0 : Int) : Option Bool := ((
  if (p0 == (2 : Int)) then
   some (p0 == (2 : Int))
  else
   if (p0 == (3 : Int)) then
    some (p0 == (3 : Int))
   else
    if (p0 == (10 : Int)) then
     some (p0 == (10 : Int))
    else
     if (p0 == (11 : Int)) then
      some (p0 == (11 : Int))
     else
      if (p0 == (33 : Int)) then
       some (p0 == (33 : Int))
      else
       if (p0 == (34 : Int)) then
        some (p0 == (34 : Int))
       else
        if (p0 == (37 : Int)) then
         some (p0 == (37 : Int))
        else
         if (p0 == (38 : Int)) then
          some (p0 == (38 : Int))
         else
          if (p0 == (50 : Int)) then
           some (p0 == (50 : Int))
          else
           if (p0 == (51 : Int)) then
            some (p0 == (51 : Int))
           else
            if (p0 == (52 : Int)) then
             some (p0 == (52 : Int))
            else
             if (p0 == (55 : Int)) then
              some (p0 == (55 : Int))
             else
              if (p0 == (56 : Int)) then
               some (p0 == (56 : Int))
              else
               if (p0 == (61 : Int)) then
                some (p0 == (61 : Int))
               else
                some (p0 == (62 : Int))) : Option Bool).bind (fun v1_0 =>
 if v1_0 then
  some true
 else
  some false)
set_option maxHeartbeats 4000000 in
theorem r08_named_ok {K : Nat} {p0 : Int} {r : Bool} (h : r08_named K p0 = some r) : Cn Tryz.prog 44 [.d (.val (.int .i64 p0))] (.d (.val (.bool r))) := by
 refine Cn.oz Tryz.func44 Tryz.call44 Tryz.ntmps44 Tryz.results44 fun hfit => ?_
 unfold r08_named at h
 refine AW.kr [] [0] ?_
 refine AW.ks [] [0] ?_
 refine AW.one ?_
 refine AW.ro ?_
 refine AW.ks [] [3] ?_
 refine AW.block ?_
 refine AW.jn h (fun v1_0 => [(4, vB v1_0)]) (fun v1_0 => []) (fun oJ2 h => ?_) fun v1_0 h => ?_
 ·refine AW.ro ?_
  refine AW.ks [] [3, 4] ?_
  refine AW.tt h (fun hb3 h => ?_) fun hb3 h => ?_
  ·refine AW.sk ?_
   exact ja [] h
  refine AW.ro ?_
  refine AW.ks [] [3, 4] ?_
  refine AW.tt h (fun hb4 h => ?_) fun hb4 h => ?_
  ·refine AW.sk ?_
   exact ja [] h
  refine AW.ro ?_
  refine AW.ks [] [3, 4] ?_
  refine AW.tt h (fun hb5 h => ?_) fun hb5 h => ?_
  ·refine AW.sk ?_
   exact ja [] h
  refine AW.ro ?_
  refine AW.ks [] [3, 4] ?_
  refine AW.tt h (fun hb6 h => ?_) fun hb6 h => ?_
  ·refine AW.sk ?_
   exact ja [] h
  refine AW.ro ?_
  refine AW.ks [] [3, 4] ?_
  refine AW.tt h (fun hb7 h => ?_) fun hb7 h => ?_
  ·refine AW.sk ?_
   exact ja [] h
  refine AW.ro ?_
  refine AW.ks [] [3, 4] ?_
  refine AW.tt h (fun hb8 h => ?_) fun hb8 h => ?_
  ·refine AW.sk ?_
   exact ja [] h
  refine AW.ro ?_
  refine AW.ks [] [3, 4] ?_
  refine AW.tt h (fun hb9 h => ?_) fun hb9 h => ?_
  ·refine AW.sk ?_
   exact ja [] h
  refine AW.ro ?_
  refine AW.ks [] [3, 4] ?_
  refine AW.tt h (fun hb10 h => ?_) fun hb10 h => ?_
  ·refine AW.sk ?_
   exact ja [] h
  refine AW.ro ?_
  refine AW.ks [] [3, 4] ?_
  refine AW.tt h (fun hb11 h => ?_) fun hb11 h => ?_
  ·refine AW.sk ?_
   exact ja [] h
  refine AW.ro ?_
  refine AW.ks [] [3, 4] ?_
  refine AW.tt h (fun hb12 h => ?_) fun hb12 h => ?_
  ·refine AW.sk ?_
   exact ja [] h
  refine AW.ro ?_
  refine AW.ks [] [3, 4] ?_
  refine AW.tt h (fun hb13 h => ?_) fun hb13 h => ?_
  ·refine AW.sk ?_
   exact ja [] h
  refine AW.ro ?_
  refine AW.ks [] [3, 4] ?_
  refine AW.tt h (fun hb14 h => ?_) fun hb14 h => ?_
  ·refine AW.sk ?_
   exact ja [] h
  refine AW.ro ?_
  refine AW.ks [] [3, 4] ?_
  refine AW.tt h (fun hb15 h => ?_) fun hb15 h => ?_
  ·refine AW.sk ?_
   exact ja [] h
  refine AW.ro ?_
  refine AW.ks [] [3, 4] ?_
  refine AW.tt h (fun hb16 h => ?_) fun hb16 h => ?_
  ·refine AW.sk ?_
   exact ja [] h
  refine AW.rp ?_
  exact ja [] h
 refine AW.tk h (fun hb17 h => ?_) fun hb17 h => ?_
 ·refine AW.ro ?_
  refine AW.ret ?_
  cases h; refine nz ?_; exact .same _
 refine AW.kr [] [] ?_
 refine AW.ret ?_
 cases h; refine nz ?_; exact .same _
/-! ### isochrone/isochroneref08.natural -/
def r08_natural (K : Nat) (p0 : RatA) : Option Bool := ((
  ((
   if p0.neg then
    some true
   else
    if ((p0.den.length : Int) != (1 : Int)) then
     some true
    else
     (idx p0.den (0 : Int)).bind fun x7 =>
     if (x7 != (1 : Int)) then
      some true
     else
      some (decide ((20 : Int) < (p0.num.length : Int)))) : Option Bool).bind (fun v3_0 =>
  if v3_0 then
   outM (
    some false)
  else
   some (.go ()))) : Option (Out Unit _)).bind (Out.fin fun _ =>
 if ((p0.num.length : Int) == (0 : Int)) then
  some true
 else
  (idx p0.num (IntKind.wrap .i64 ((p0.num.length : Int) - (1 : Int)))).bind fun x12 =>
  some (x12 != (0 : Int)))
set_option maxHeartbeats 4000000 in
theorem r08_natural_ok {K : Nat} {p0 : RatA} {r : Bool} (h : r08_natural K p0 = some r) : Cn Tryz.prog 46 [aggV p0.enc] (.d (.val (.bool r))) := by
 refine Cn.oz Tryz.func46 Tryz.call46 Tryz.ntmps46 Tryz.results46 fun hfit => ?_
 unfold r08_natural at h
 refine AW.kr [] [0] ?_
 refine AW.ks [0] [1] ?_
 refine AW.jo h (fun _ => [(1, .ptr 0 3 0 0)]) (fun _ => [vE p0.enc]) (fun oJ2 h hJ2 => ?_) fun ⟨⟩ h => ?_
 ·refine AW.jn h (fun v3_0 => [(1, .ptr 0 3 0 0), (23, vB v3_0)]) (fun v3_0 => [vE p0.enc]) (fun oJ4 h => ?_) fun v3_0 h => ?_
  ·refine AW.rp ?_
   refine sK h (fun hb5 h => ?_) fun hb5 h => ?_
   ·exact ja [0] h
   refine sK h (fun hb6 h => ?_) fun hb6 h => ?_
   ·exact ja [0] h
   refine bx h fun x7 h0 h1 h => ?_
   refine sK h (fun hb9 h => ?_) fun hb9 h => ?_
   ·exact ja [0] h
   exact ja [0] h
  refine AW.tk h (fun hb10 h => ?_) fun hb10 h => ?_
  ·refine AW.ro ?_
   refine AW.ret ?_
   have h := up h hJ2
   cases h; refine nz ?_; exact .same _
  exact jo [0] h
 refine AW.ro ?_
 refine sK h (fun hb11 h => ?_) fun hb11 h => ?_
 ·refine AW.ret ?_
  cases h; refine nz ?_; exact .same _
 refine bx h fun x12 h0 h1 h => ?_
 refine AW.ret ?_
 cases h; refine nz ?_; exact .same _
/-! ### isochrone/isochroneref08.primed -/
def r08_primed_body (K : Nat) (self91 : NodeA → Option Bool) (p0 : NodeA) : Option Bool := ((
  ((
   if (p0.op == (3 : Int)) then
    some true
   else
    if (p0.op == (12 : Int)) then
     some true
    else
     some (p0.op == (39 : Int))) : Option Bool).bind (fun v3_0 =>
  if v3_0 then
   outM (
    some true)
  else
   some (.go ()))) : Option (Out Unit _)).bind (Out.fin fun _ =>
 ((iter (S := Int) (R := Out Unit _) K (fun again i8_0 =>
  if (decide (i8_0 < (p0.kids.length : Int))) then
   (idx p0.kids i8_0).bind fun x13 =>
   (self91 (x13)).bind fun r15 =>
   if r15 then
    outM (
     some true)
   else
    again (IntKind.wrap .i64 (i8_0 + (1 : Int)))
  else
   some (.go ())) (0 : Int)) : Option (Out Unit _)).bind (Out.fin fun _ =>
 some false))
set_option maxHeartbeats 4000000 in
theorem r08_primed_step (K : Nat) (self91 : NodeA → Option Bool) (hself91 : ∀ (q : NodeA) (r : Bool), self91 q = some r → Cn Tryz.prog 91 [aggV q.enc] (.d (.val (.bool r)))) (p0 : NodeA) (r : Bool) (h : r08_primed_body K self91 p0 = some r) : Cn Tryz.prog 91 [aggV p0.enc] (.d (.val (.bool r))) := by
 refine Cn.oz Tryz.func91 Tryz.call91 Tryz.ntmps91 Tryz.results91 fun hfit => ?_
 unfold r08_primed_body at h
 refine AW.kr [] [0] ?_
 refine AW.ks [0] [1] ?_
 refine AW.jo h (fun _ => [(1, .ptr 0 6 0 0)]) (fun _ => [vE p0.enc]) (fun oJ2 h hJ2 => ?_) fun ⟨⟩ h => ?_
 ·refine AW.jn h (fun v3_0 => [(1, .ptr 0 6 0 0), (16, vB v3_0)]) (fun v3_0 => [vE p0.enc]) (fun oJ4 h => ?_) fun v3_0 h => ?_
  ·refine AW.rp ?_
   refine sK h (fun hb5 h => ?_) fun hb5 h => ?_
   ·exact ja [0] h
   refine sK h (fun hb6 h => ?_) fun hb6 h => ?_
   ·exact ja [0] h
   exact ja [0] h
  refine AW.tk h (fun hb7 h => ?_) fun hb7 h => ?_
  ·refine AW.ro ?_
   refine AW.ret ?_
   have h := up h hJ2
   cases h; refine nz ?_; exact .same _
  exact jo [0] h
 refine AW.one ?_
 refine AW.ro ?_
 refine AW.ks [0] [1, 3] ?_
 refine AW.lp h (fun _ => []) (fun _ => []) (fun i8_0 => [(1, .ptr 0 6 0 0), (3, vI i8_0)]) (fun i8_0 => [vE p0.enc]) [0] (fun oJ11 hJ11 again i8_0 h => ?_) fun ⟨⟩ h => ?_
 ·refine AW.one ?_
  refine AW.ro ?_
  refine AW.ks [0] [1, 3, 21] ?_
  refine AW.tt h (fun hb12 h => ?_) fun hb12 h => ?_
  ·refine AW.sk ?_
   refine AW.ks [0] [1, 3] ?_
   refine AW.one ?_
   refine AW.block ?_
   refine AW.ro ?_
   refine bx h fun x13 h0 h1 h => ?_
   refine cm h (hself91 _ _) fun r15 hx16 h => ?_
   refine AW.ks [0] [1, 3, 29] ?_
   refine AW.tk h (fun hb17 h => ?_) fun hb17 h => ?_
   ·refine AW.ro ?_
    refine AW.ret ?_
    have h := up h hJ11
    cases h; refine nz ?_; exact .same _
   refine AW.ks [0] [1, 3] ?_
   refine AW.rp ?_
   exact na [0] h
  refine AW.ex ?_
  exact jo [] h
 refine AW.kr [] [] ?_
 refine AW.ret ?_
 cases h; refine nz ?_; exact .same _
def r08_primed (K : Nat) (p0 : NodeA) : Option Bool := iter K (fun self q => r08_primed_body K self q) p0
theorem key_r08_primed {K : Nat} (k : Nat) : (∀ (q : NodeA) (r : Bool), iter k (fun self q => r08_primed_body K self q) q = some r → Cn Tryz.prog 91 [aggV q.enc] (.d (.val (.bool r)))) := by
 induction k with
 | zero => exact fun q r h => by cases h
 | succ k ih => exact fun q r h => r08_primed_step K _ ih q r h
theorem r08_primed_ok {K : Nat} {p0 : NodeA} {r : Bool} (h : r08_primed K p0 = some r) : Cn Tryz.prog 91 [aggV p0.enc] (.d (.val (.bool r))) := (key_r08_primed K) p0 r h
/-! ### isochrone/isochroneref08.well -/
def r08_well_body (K : Nat) (self17 : (NodeA × Int × Bool × Bool) → Option Bool) (self47 : (NodeA × Bool × Bool) → Option Bool) (p0 : NodeA) (p1 : Int) (p2 : Bool) (p3 : Bool) : Option Bool := ((
  ((
   (r08_Sort K p0.op).bind fun r5 =>
   if (r5 != p1) then
    some true
   else
    (r08_named K p0.op).bind fun r8 =>
    (r08_Name K p0.name).bind fun r10 =>
    if (!(r8 == r10)) then
     some true
    else
     (r08_named K p0.op).bind fun r13 =>
     if (!r13) then
      some (!(p0.name.toList == (⟨#[]⟩ : ByteArray).toList))
     else
      some false) : Option Bool).bind (fun v3_0 =>
  if v3_0 then
   outM (
    some false)
  else
   some (.go ()))) : Option (Out Unit _)).bind (Out.fin fun _ =>
 ((
  if (p0.op == (1 : Int)) then
   (r08_natural K p0.num).bind fun r20 =>
   if (!r20) then
    outM (
     some false)
   else
    some (.go ())
  else
   ((
    if p0.num.neg then
     some true
    else
     if (decide ((0 : Int) < (p0.num.num.length : Int))) then
      some true
     else
      some (decide ((0 : Int) < (p0.num.den.length : Int)))) : Option Bool).bind (fun v23_0 =>
   if v23_0 then
    outM (
     some false)
   else
    some (.go ()))) : Option (Out Unit _)).bind (Out.fin fun _ =>
 ((
  ((
   if p2 then
    if (p0.op == (12 : Int)) then
     some true
    else
     some (p0.op == (3 : Int))
   else
    if p3 then
     some (p0.op == (3 : Int))
    else
     some false) : Option Bool).bind (fun v30_0 =>
  if v30_0 then
   outM (
    some false)
  else
   some (.go ()))) : Option (Out Unit _)).bind (Out.fin fun _ =>
 if (p0.op == (54 : Int)) then
  (self47 (p0, p2, p3)).bind fun r37 =>
  some r37
 else
  (r08_kids K p0.op).bind fun r39 =>
  ((
   ((
    if (p0.op == (10 : Int)) then
     some true
    else
     some (p0.op == (37 : Int))) : Option Bool).bind (fun v43_0 =>
   if v43_0 then
    if ((p0.kids.length : Int) == (1 : Int)) then
     some (⟨#[49]⟩ : ByteArray)
    else
     some r39
   else
    some r39)) : Option ByteArray).bind (fun v41_0 =>
  if ((v41_0.size : Int) != (p0.kids.length : Int)) then
   some false
  else
   ((iter (S := Int) (R := Out Unit _) K (fun again i49_0 =>
    if (decide (i49_0 < (v41_0.size : Int))) then
     ((
      ((
       (idx p0.kids i49_0).bind fun x58 =>
       (strAt v41_0 i49_0).bind fun c60 =>
       if p2 then
        if p3 then
         (self17 (x58, IntKind.wrap .i64 (IntKind.wrap .u8 ((c60.toNat : Int) - (48 : Int))), true, true)).bind fun r64 =>
         some (!r64)
        else
         (self17 (x58, IntKind.wrap .i64 (IntKind.wrap .u8 ((c60.toNat : Int) - (48 : Int))), true, (p0.op == (39 : Int)))).bind fun r66 =>
         some (!r66)
       else
        if p3 then
         (self17 (x58, IntKind.wrap .i64 (IntKind.wrap .u8 ((c60.toNat : Int) - (48 : Int))), (p0.op == (12 : Int)), true)).bind fun r69 =>
         some (!r69)
        else
         (self17 (x58, IntKind.wrap .i64 (IntKind.wrap .u8 ((c60.toNat : Int) - (48 : Int))), (p0.op == (12 : Int)), (p0.op == (39 : Int)))).bind fun r71 =>
         some (!r71)) : Option Bool).bind (fun v56_0 =>
      if v56_0 then
       outM (
        outM (
         some false))
      else
       some (.go ()))) : Option (Out Unit _)).bind (Out.fin fun _ =>
     again (IntKind.wrap .i64 (i49_0 + (1 : Int))))
    else
     some (.go ())) (0 : Int)) : Option (Out Unit _)).bind (Out.fin fun _ =>
   if (p0.op == (8 : Int)) then
    (idx p0.kids (1 : Int)).bind fun x75 =>
    if (x75.op == (1 : Int)) then
     some (decide ((0 : Int) < (x75.num.num.length : Int)))
    else
     some false
   else
    if (p0.op == (9 : Int)) then
     (idx p0.kids (1 : Int)).bind fun x79 =>
     if (x79.op == (1 : Int)) then
      (r08_Natural K x79.num (20 : Int)).bind fun r82 =>
      some (decide ((0 : Int) ≤ r82))
     else
      some false
    else
     if (p0.op == (39 : Int)) then
      (idx p0.kids (0 : Int)).bind fun x85 =>
      (r08_differential K x85).bind fun r87 =>
      some r87
     else
      some true)))))
set_option maxHeartbeats 4000000 in
theorem r08_well_step (K : Nat) (self17 : (NodeA × Int × Bool × Bool) → Option Bool) (self47 : (NodeA × Bool × Bool) → Option Bool) (hself17 : ∀ (q : NodeA × Int × Bool × Bool) (r : Bool), self17 q = some r → Cn Tryz.prog 17 [aggV q.1.enc, .d (.val (.int .i64 q.2.1)), .d (.val (.bool q.2.2.1)), .d (.val (.bool q.2.2.2))] (.d (.val (.bool r)))) (hself47 : ∀ (q : NodeA × Bool × Bool) (r : Bool), self47 q = some r → Cn Tryz.prog 47 [aggV q.1.enc, .d (.val (.bool q.2.1)), .d (.val (.bool q.2.2))] (.d (.val (.bool r)))) (p0 : NodeA) (p1 : Int) (p2 : Bool) (p3 : Bool) (r : Bool) (h : r08_well_body K self17 self47 p0 p1 p2 p3 = some r) : Cn Tryz.prog 17 [aggV p0.enc, .d (.val (.int .i64 p1)), .d (.val (.bool p2)), .d (.val (.bool p3))] (.d (.val (.bool r))) := by
 have q0 := fun k z => cv_int (k' := k) (z := z) Tryz.underlying5 Tryz.underlying3
 refine Cn.oz Tryz.func17 Tryz.call17 Tryz.ntmps17 Tryz.results17 fun hfit => ?_
 unfold r08_well_body at h
 refine AW.kr [] [0, 1, 2, 3] ?_
 refine AW.ks [0] [1, 2, 3, 4] ?_
 refine AW.jo h (fun _ => [(2, vB p2), (3, vB p3), (4, .ptr 0 6 0 0)]) (fun _ => [vE p0.enc]) (fun oJ2 h hJ2 => ?_) fun ⟨⟩ h => ?_
 ·refine AW.jn h (fun v3_0 => [(2, vB p2), (3, vB p3), (4, .ptr 0 6 0 0), (35, vB v3_0)]) (fun v3_0 => [vE p0.enc]) (fun oJ4 h => ?_) fun v3_0 h => ?_
  ·refine AW.rp ?_
   refine pm h r08_Sort_ok fun r5 hx6 h => ?_
   refine sK h (fun hb7 h => ?_) fun hb7 h => ?_
   ·exact ja [0] h
   refine pm h r08_named_ok fun r8 hx9 h => ?_
   refine pm h r08_Name_ok fun r10 hx11 h => ?_
   refine sK h (fun hb12 h => ?_) fun hb12 h => ?_
   ·exact ja [0] h
   refine pm h r08_named_ok fun r13 hx14 h => ?_
   refine sK h (fun hb15 h => ?_) fun hb15 h => ?_
   ·exact ja [0] h
   exact ja [0] h
  refine AW.tk h (fun hb16 h => ?_) fun hb16 h => ?_
  ·refine AW.ro ?_
   refine AW.ret ?_
   have h := up h hJ2
   cases h; refine nz ?_; exact .same _
  exact jo [0] h
 refine AW.jo h (fun _ => [(2, vB p2), (3, vB p3), (4, .ptr 0 6 0 0)]) (fun _ => [vE p0.enc]) (fun oJ18 h hJ18 => ?_) fun ⟨⟩ h => ?_
 ·refine AW.ro ?_
  refine AW.ks [0] [2, 3, 4, 38] ?_
  refine AW.tt h (fun hb19 h => ?_) fun hb19 h => ?_
  ·refine AW.ro ?_
   refine cm h r08_natural_ok fun r20 hx21 h => ?_
   refine AW.ks [0] [2, 3, 4, 42] ?_
   refine AW.tk h (fun hb22 h => ?_) fun hb22 h => ?_
   ·refine AW.ro ?_
    refine AW.ret ?_
    have h := up h hJ18
    cases h; refine nz ?_; exact .same _
   exact jo [0] h
  refine AW.jn h (fun v23_0 => [(2, vB p2), (3, vB p3), (4, .ptr 0 6 0 0), (59, vB v23_0)]) (fun v23_0 => [vE p0.enc]) (fun oJ24 h => ?_) fun v23_0 h => ?_
  ·refine AW.rp ?_
   refine sK h (fun hb25 h => ?_) fun hb25 h => ?_
   ·exact ja [0] h
   refine sK h (fun hb26 h => ?_) fun hb26 h => ?_
   ·exact ja [0] h
   exact ja [0] h
  refine AW.tk h (fun hb27 h => ?_) fun hb27 h => ?_
  ·refine AW.ro ?_
   refine AW.ret ?_
   have h := up h hJ18
   cases h; refine nz ?_; exact .same _
  exact jo [0] h
 refine AW.jo h (fun _ => [(2, vB p2), (3, vB p3), (4, .ptr 0 6 0 0)]) (fun _ => [vE p0.enc]) (fun oJ29 h hJ29 => ?_) fun ⟨⟩ h => ?_
 ·refine AW.jn h (fun v30_0 => [(2, vB p2), (3, vB p3), (4, .ptr 0 6 0 0), (76, vB v30_0)]) (fun v30_0 => [vE p0.enc]) (fun oJ31 h => ?_) fun v30_0 h => ?_
  ·refine AW.rp ?_
   refine sK h (fun hb32 h => ?_) fun hb32 h => ?_
   ·refine sK h (fun hb33 h => ?_) fun hb33 h => ?_
    ·exact ja [0] h
    exact ja [0] h
   refine sK h (fun hb34 h => ?_) fun hb34 h => ?_
   ·exact ja [0] h
   exact ja [0] h
  refine AW.tk h (fun hb35 h => ?_) fun hb35 h => ?_
  ·refine AW.ro ?_
   refine AW.ret ?_
   have h := up h hJ29
   cases h; refine nz ?_; exact .same _
  exact jo [0] h
 refine AW.one ?_
 refine AW.ro ?_
 refine AW.ks [0] [2, 3, 4, 79] ?_
 refine AW.tk h (fun hb36 h => ?_) fun hb36 h => ?_
 ·refine AW.ro ?_
  refine cm h (hself47 _ _) fun r37 hx38 h => ?_
  refine AW.ret ?_
  cases h; refine nz ?_; exact .same _
 refine AW.kr [0] [2, 3, 4] ?_
 refine cm h r08_kids_ok fun r39 hx40 h => ?_
 refine AW.ks [0] [2, 3, 4, 9] ?_
 refine AW.jn h (fun v41_0 => [(2, vB p2), (3, vB p3), (4, .ptr 0 6 0 0), (9, vS v41_0)]) (fun v41_0 => [vE p0.enc]) (fun oJ42 h => ?_) fun v41_0 h => ?_
 ·refine AW.jn h (fun v43_0 => [(2, vB p2), (3, vB p3), (4, .ptr 0 6 0 0), (9, vS r39), (94, vB v43_0)]) (fun v43_0 => [vE p0.enc]) (fun oJ44 h => ?_) fun v43_0 h => ?_
  ·refine AW.rp ?_
   refine sK h (fun hb45 h => ?_) fun hb45 h => ?_
   ·exact ja [0] h
   exact ja [0] h
  refine AW.tk h (fun hb46 h => ?_) fun hb46 h => ?_
  ·refine AW.ro ?_
   refine AW.ks [0] [2, 3, 4, 9, 98] ?_
   refine AW.tk h (fun hb47 h => ?_) fun hb47 h => ?_
   ·refine AW.rp ?_
    exact ja [0] h
   exact ja [0] h
  exact ja [0] h
 refine AW.one ?_
 refine AW.ro ?_
 refine AW.ks [0] [2, 3, 4, 9, 104] ?_
 refine AW.tk h (fun hb48 h => ?_) fun hb48 h => ?_
 ·refine AW.ro ?_
  refine AW.ret ?_
  cases h; refine nz ?_; exact .same _
 refine AW.ks [0] [2, 3, 4, 9] ?_
 refine AW.one ?_
 refine AW.ro ?_
 refine AW.ks [0] [2, 3, 4, 9, 10] ?_
 refine AW.lp h (fun _ => [(4, .ptr 0 6 0 0)]) (fun _ => [vE p0.enc]) (fun i49_0 => [(2, vB p2), (3, vB p3), (4, .ptr 0 6 0 0), (9, vS v41_0), (10, vI i49_0)]) (fun i49_0 => [vE p0.enc]) [0] (fun oJ52 hJ52 again i49_0 h => ?_) fun ⟨⟩ h => ?_
 ·refine AW.one ?_
  refine AW.ro ?_
  refine AW.ks [0] [2, 3, 4, 9, 10, 108] ?_
  refine AW.tt h (fun hb53 h => ?_) fun hb53 h => ?_
  ·refine AW.sk ?_
   refine AW.ks [0] [2, 3, 4, 9, 10] ?_
   refine AW.jo h (fun _ => [(2, vB p2), (3, vB p3), (4, .ptr 0 6 0 0), (9, vS v41_0), (10, vI i49_0)]) (fun _ => [vE p0.enc]) (fun oJ55 h hJ55 => ?_) fun ⟨⟩ h => ?_
   ·refine AW.block ?_
    refine AW.jn h (fun v56_0 => [(2, vB p2), (3, vB p3), (4, .ptr 0 6 0 0), (9, vS v41_0), (10, vI i49_0), (134, vB v56_0)]) (fun v56_0 => [vE p0.enc]) (fun oJ57 h => ?_) fun v56_0 h => ?_
    ·refine AW.rp ?_
     refine bx h fun x58 h0 h1 h => ?_
     refine bb h fun c60 hx61 h => ?_
     refine sK h (fun hb62 h => ?_) fun hb62 h => ?_
     ·refine sK h (fun hb63 h => ?_) fun hb63 h => ?_
      ·refine pm h (hself17 _ _) fun r64 hx65 h => ?_
       exact ja [0] h
      refine pm h (hself17 _ _) fun r66 hx67 h => ?_
      exact ja [0] h
     refine sK h (fun hb68 h => ?_) fun hb68 h => ?_
     ·refine pm h (hself17 _ _) fun r69 hx70 h => ?_
      exact ja [0] h
     refine pm h (hself17 _ _) fun r71 hx72 h => ?_
     exact ja [0] h
    refine AW.tk h (fun hb73 h => ?_) fun hb73 h => ?_
    ·refine AW.ro ?_
     refine AW.ret ?_
     have h := up h hJ55
     have h := up h hJ52
     cases h; refine nz ?_; exact .same _
    exact jo [0] h
   refine AW.rp ?_
   exact na [0] h
  refine AW.ex ?_
  exact jo [0] h
 refine AW.ks [0] [4] ?_
 refine AW.one ?_
 refine AW.ro ?_
 refine AW.ks [0] [4, 136] ?_
 refine AW.block ?_
 refine AW.ro ?_
 refine AW.ks [0] [4, 136, 137] ?_
 refine AW.tt h (fun hb74 h => ?_) fun hb74 h => ?_
 ·refine AW.ro ?_
  refine bx h fun x75 h0 h1 h => ?_
  refine sK h (fun hb77 h => ?_) fun hb77 h => ?_
  ·refine AW.ret ?_
   cases h; refine nz ?_; exact .same _
  refine AW.ret ?_
  cases h; refine nz ?_; exact .same _
 refine AW.ro ?_
 refine AW.ks [0] [4, 136, 155] ?_
 refine AW.tt h (fun hb78 h => ?_) fun hb78 h => ?_
 ·refine AW.ro ?_
  refine bx h fun x79 h0 h1 h => ?_
  refine sK h (fun hb81 h => ?_) fun hb81 h => ?_
  ·refine cm h r08_Natural_ok fun r82 hx83 h => ?_
   refine AW.ret ?_
   cases h; refine nz ?_; exact .same _
  refine AW.ret ?_
  cases h; refine nz ?_; exact .same _
 refine AW.ro ?_
 refine AW.ks [0] [4, 172] ?_
 refine AW.tk h (fun hb84 h => ?_) fun hb84 h => ?_
 ·refine AW.ro ?_
  refine bx h fun x85 h0 h1 h => ?_
  refine cm h r08_differential_ok fun r87 hx88 h => ?_
  refine AW.ret ?_
  cases h; refine nz ?_; exact .same _
 refine AW.kr [] [] ?_
 refine AW.ret ?_
 cases h; refine nz ?_; exact .same _
/-! ### isochrone/isochroneref08.flow -/
def r08_flow_body (K : Nat) (self17 : (NodeA × Int × Bool × Bool) → Option Bool) (self47 : (NodeA × Bool × Bool) → Option Bool) (p0 : NodeA) (p1 : Bool) (p2 : Bool) : Option Bool := ((
  ((
   if (decide ((p0.kids.length : Int) < (2 : Int))) then
    some true
   else
    (r08_primed K p0).bind fun r6 =>
    if r6 then
     some true
    else
     (idx p0.kids (IntKind.wrap .i64 ((p0.kids.length : Int) - (1 : Int)))).bind fun x9 =>
     (self17 (x9, (2 : Int), p1, p2)).bind fun r11 =>
     some (!r11)) : Option Bool).bind (fun v3_0 =>
  if v3_0 then
   outM (
    some false)
  else
   some (.go ()))) : Option (Out Unit _)).bind (Out.fin fun _ =>
 ((iter (S := Int) (R := Out Unit _) K (fun again i14_0 =>
  if (decide (i14_0 < (IntKind.wrap .i64 ((p0.kids.length : Int) - (1 : Int))))) then
   ((
    (idx p0.kids i14_0).bind fun x21 =>
    ((
     ((
      if (x21.op == (56 : Int)) then
       if (decide (i14_0 < (IntKind.wrap .i64 ((p0.kids.length : Int) - (2 : Int))))) then
        some true
       else
        if (x21.op != (56 : Int)) then
         if (x21.op != (55 : Int)) then
          some true
         else
          (self17 (x21, (4 : Int), p1, p2)).bind fun r31 =>
          some (!r31)
        else
         (self17 (x21, (4 : Int), p1, p2)).bind fun r33 =>
         some (!r33)
      else
       if (x21.op != (56 : Int)) then
        if (x21.op != (55 : Int)) then
         some true
        else
         (self17 (x21, (4 : Int), p1, p2)).bind fun r37 =>
         some (!r37)
       else
        (self17 (x21, (4 : Int), p1, p2)).bind fun r39 =>
        some (!r39)) : Option Bool).bind (fun v25_0 =>
     if v25_0 then
      outM (
       outM (
        outM (
         some false)))
     else
      some (.go ()))) : Option (Out Unit _)).bind (Out.fin fun _ =>
    ((iter (S := Int) (R := Out Unit _) K (fun again i42_0 =>
     if (decide (i42_0 < i14_0)) then
      ((
       ((
        if (x21.op == (55 : Int)) then
         (idx p0.kids i42_0).bind fun x52 =>
         some (x52.name.toList == x21.name.toList)
        else
         some false) : Option Bool).bind (fun v49_0 =>
       if v49_0 then
        outM (
         outM (
          outM (
           outM (
            some false))))
       else
        some (.go ()))) : Option (Out Unit _)).bind (Out.fin fun _ =>
      again (IntKind.wrap .i64 (i42_0 + (1 : Int))))
     else
      some (.go ())) (0 : Int)) : Option (Out Unit _)).bind (Out.fin fun _ =>
    some (.go ())))) : Option (Out Unit _)).bind (Out.fin fun _ =>
   again (IntKind.wrap .i64 (i14_0 + (1 : Int))))
  else
   some (.go ())) (0 : Int)) : Option (Out Unit _)).bind (Out.fin fun _ =>
 some true))
set_option maxHeartbeats 4000000 in
theorem r08_flow_step (K : Nat) (self17 : (NodeA × Int × Bool × Bool) → Option Bool) (self47 : (NodeA × Bool × Bool) → Option Bool) (hself17 : ∀ (q : NodeA × Int × Bool × Bool) (r : Bool), self17 q = some r → Cn Tryz.prog 17 [aggV q.1.enc, .d (.val (.int .i64 q.2.1)), .d (.val (.bool q.2.2.1)), .d (.val (.bool q.2.2.2))] (.d (.val (.bool r)))) (hself47 : ∀ (q : NodeA × Bool × Bool) (r : Bool), self47 q = some r → Cn Tryz.prog 47 [aggV q.1.enc, .d (.val (.bool q.2.1)), .d (.val (.bool q.2.2))] (.d (.val (.bool r)))) (p0 : NodeA) (p1 : Bool) (p2 : Bool) (r : Bool) (h : r08_flow_body K self17 self47 p0 p1 p2 = some r) : Cn Tryz.prog 47 [aggV p0.enc, .d (.val (.bool p1)), .d (.val (.bool p2))] (.d (.val (.bool r))) := by
 refine Cn.oz Tryz.func47 Tryz.call47 Tryz.ntmps47 Tryz.results47 fun hfit => ?_
 unfold r08_flow_body at h
 refine AW.kr [] [0, 1, 2] ?_
 refine AW.kr [0] [1, 2, 3] ?_
 refine AW.ks [0] [1, 2, 3, 7] ?_
 refine AW.jo h (fun _ => [(1, vB p1), (2, vB p2), (3, .ptr 0 6 0 0), (7, vI (p0.kids.length : Int))]) (fun _ => [vE p0.enc]) (fun oJ2 h hJ2 => ?_) fun ⟨⟩ h => ?_
 ·refine AW.jn h (fun v3_0 => [(1, vB p1), (2, vB p2), (3, .ptr 0 6 0 0), (7, vI (p0.kids.length : Int)), (31, vB v3_0)]) (fun v3_0 => [vE p0.enc]) (fun oJ4 h => ?_) fun v3_0 h => ?_
  ·refine AW.rp ?_
   refine sK h (fun hb5 h => ?_) fun hb5 h => ?_
   ·exact ja [0] h
   refine cm h r08_primed_ok fun r6 hx7 h => ?_
   refine sK h (fun hb8 h => ?_) fun hb8 h => ?_
   ·exact ja [0] h
   refine bx h fun x9 h0 h1 h => ?_
   refine cm h (hself17 _ _) fun r11 hx12 h => ?_
   exact ja [0] h
  refine AW.tk h (fun hb13 h => ?_) fun hb13 h => ?_
  ·refine AW.ro ?_
   refine AW.ret ?_
   have h := up h hJ2
   cases h; refine nz ?_; exact .same _
  exact jo [0] h
 refine AW.one ?_
 refine AW.ro ?_
 refine AW.ks [0] [1, 2, 3, 7, 8] ?_
 refine AW.lp h (fun _ => []) (fun _ => []) (fun i14_0 => [(1, vB p1), (2, vB p2), (3, .ptr 0 6 0 0), (7, vI (p0.kids.length : Int)), (8, vI i14_0)]) (fun i14_0 => [vE p0.enc]) [0] (fun oJ17 hJ17 again i14_0 h => ?_) fun ⟨⟩ h => ?_
 ·refine AW.one ?_
  refine AW.ro ?_
  refine AW.ks [0] [1, 2, 3, 7, 8, 35] ?_
  refine AW.tt h (fun hb18 h => ?_) fun hb18 h => ?_
  ·refine AW.sk ?_
   refine AW.ks [0] [1, 2, 3, 7, 8] ?_
   refine AW.jo h (fun _ => [(1, vB p1), (2, vB p2), (3, .ptr 0 6 0 0), (7, vI (p0.kids.length : Int)), (8, vI i14_0)]) (fun _ => [vE p0.enc]) (fun oJ20 h hJ20 => ?_) fun ⟨⟩ h => ?_
   ·refine AW.block ?_
    refine AW.ro ?_
    refine bx h fun x21 h0 h1 h => ?_
    refine AW.ks [0, 6] [1, 2, 3, 7, 8, 9] ?_
    refine AW.jo h (fun _ => [(1, vB p1), (2, vB p2), (3, .ptr 0 6 0 0), (7, vI (p0.kids.length : Int)), (8, vI i14_0), (9, .ptr 1 6 0 0)]) (fun _ => [vE p0.enc, vE x21.enc]) (fun oJ24 h hJ24 => ?_) fun ⟨⟩ h => ?_
    ·refine AW.jn h (fun v25_0 => [(1, vB p1), (2, vB p2), (3, .ptr 0 6 0 0), (7, vI (p0.kids.length : Int)), (8, vI i14_0), (9, .ptr 1 6 0 0), (68, vB v25_0)]) (fun v25_0 => [vE p0.enc, vE x21.enc]) (fun oJ26 h => ?_) fun v25_0 h => ?_
     ·refine AW.rp ?_
      refine sK h (fun hb27 h => ?_) fun hb27 h => ?_
      ·refine sK h (fun hb28 h => ?_) fun hb28 h => ?_
       ·exact ja [0, 1] h
       refine sK h (fun hb29 h => ?_) fun hb29 h => ?_
       ·refine sK h (fun hb30 h => ?_) fun hb30 h => ?_
        ·exact ja [0, 1] h
        refine cm h (hself17 _ _) fun r31 hx32 h => ?_
        exact ja [0, 1] h
       refine cm h (hself17 _ _) fun r33 hx34 h => ?_
       exact ja [0, 1] h
      refine sK h (fun hb35 h => ?_) fun hb35 h => ?_
      ·refine sK h (fun hb36 h => ?_) fun hb36 h => ?_
       ·exact ja [0, 1] h
       refine cm h (hself17 _ _) fun r37 hx38 h => ?_
       exact ja [0, 1] h
      refine cm h (hself17 _ _) fun r39 hx40 h => ?_
      exact ja [0, 1] h
     refine AW.tk h (fun hb41 h => ?_) fun hb41 h => ?_
     ·refine AW.ro ?_
      refine AW.ret ?_
      have h := up h hJ24
      have h := up h hJ20
      have h := up h hJ17
      cases h; refine nz ?_; exact .same _
     exact jo [0, 1] h
    refine AW.ro ?_
    refine AW.ks [0, 1] [1, 2, 3, 7, 8, 9, 10] ?_
    refine AW.lp h (fun _ => [(1, vB p1), (2, vB p2), (3, .ptr 0 6 0 0), (7, vI (p0.kids.length : Int)), (8, vI i14_0)]) (fun _ => [vE p0.enc]) (fun i42_0 => [(1, vB p1), (2, vB p2), (3, .ptr 0 6 0 0), (7, vI (p0.kids.length : Int)), (8, vI i14_0), (9, .ptr 1 6 0 0), (10, vI i42_0)]) (fun i42_0 => [vE p0.enc, vE x21.enc]) [0, 1] (fun oJ45 hJ45 again i42_0 h => ?_) fun ⟨⟩ h => ?_
    ·refine AW.one ?_
     refine AW.ro ?_
     refine AW.ks [0, 1] [1, 2, 3, 7, 8, 9, 10, 71] ?_
     refine AW.tt h (fun hb46 h => ?_) fun hb46 h => ?_
     ·refine AW.sk ?_
      refine AW.ks [0, 1] [1, 2, 3, 7, 8, 9, 10] ?_
      refine AW.jo h (fun _ => [(1, vB p1), (2, vB p2), (3, .ptr 0 6 0 0), (7, vI (p0.kids.length : Int)), (8, vI i14_0), (9, .ptr 1 6 0 0), (10, vI i42_0)]) (fun _ => [vE p0.enc, vE x21.enc]) (fun oJ48 h hJ48 => ?_) fun ⟨⟩ h => ?_
      ·refine AW.block ?_
       refine AW.jn h (fun v49_0 => [(1, vB p1), (2, vB p2), (3, .ptr 0 6 0 0), (7, vI (p0.kids.length : Int)), (8, vI i14_0), (9, .ptr 1 6 0 0), (10, vI i42_0), (87, vB v49_0)]) (fun v49_0 => [vE p0.enc, vE x21.enc]) (fun oJ50 h => ?_) fun v49_0 h => ?_
       ·refine AW.rp ?_
        refine sK h (fun hb51 h => ?_) fun hb51 h => ?_
        ·refine bx h fun x52 h0 h1 h => ?_
         exact ja [0, 1] h
        exact ja [0, 1] h
       refine AW.tk h (fun hb54 h => ?_) fun hb54 h => ?_
       ·refine AW.ro ?_
        refine AW.ret ?_
        have h := up h hJ48
        have h := up h hJ45
        have h := up h hJ20
        have h := up h hJ17
        cases h; refine nz ?_; exact .same _
       exact jo [0, 1] h
      refine AW.rp ?_
      exact na [0, 1] h
     refine AW.ex ?_
     exact jo [0] h
    exact jo [0] h
   refine AW.rp ?_
   exact na [0] h
  refine AW.ex ?_
  exact jo [] h
 refine AW.kr [] [] ?_
 refine AW.ret ?_
 cases h; refine nz ?_; exact .same _
def grp_r08_well (K : Nat) : Nat → ((NodeA × Int × Bool × Bool) → Option Bool) × ((NodeA × Bool × Bool) → Option Bool)
 | 0 => (fun _ => none, fun _ => none)
 | k + 1 => (fun q => r08_well_body K (grp_r08_well K k).1 (grp_r08_well K k).2 q.1 q.2.1 q.2.2.1 q.2.2.2, fun q => r08_flow_body K (grp_r08_well K k).1 (grp_r08_well K k).2 q.1 q.2.1 q.2.2)
def r08_well (K : Nat) (p0 : NodeA) (p1 : Int) (p2 : Bool) (p3 : Bool) : Option Bool := (grp_r08_well K K).1 (p0, p1, p2, p3)
theorem key_r08_well {K : Nat} (k : Nat) : (∀ (q : NodeA × Int × Bool × Bool) (r : Bool), (grp_r08_well K k).1 q = some r → Cn Tryz.prog 17 [aggV q.1.enc, .d (.val (.int .i64 q.2.1)), .d (.val (.bool q.2.2.1)), .d (.val (.bool q.2.2.2))] (.d (.val (.bool r)))) ∧ (∀ (q : NodeA × Bool × Bool) (r : Bool), (grp_r08_well K k).2 q = some r → Cn Tryz.prog 47 [aggV q.1.enc, .d (.val (.bool q.2.1)), .d (.val (.bool q.2.2))] (.d (.val (.bool r)))) := by
 induction k with
 | zero => exact ⟨(fun q r h => nomatch (show (none : Option _) = some r from h)), (fun q r h => nomatch (show (none : Option _) = some r from h))⟩
 | succ k ih => exact ⟨fun q r h => r08_well_step K _ _ ih.1 ih.2 q.1 q.2.1 q.2.2.1 q.2.2.2 r h, fun q r h => r08_flow_step K _ _ ih.1 ih.2 q.1 q.2.1 q.2.2 r h⟩
theorem r08_well_ok {K : Nat} {p0 : NodeA} {p1 : Int} {p2 : Bool} {p3 : Bool} {r : Bool} (h : r08_well K p0 p1 p2 p3 = some r) : Cn Tryz.prog 17 [aggV p0.enc, .d (.val (.int .i64 p1)), .d (.val (.bool p2)), .d (.val (.bool p3))] (.d (.val (.bool r))) := (key_r08_well K).1 (p0, p1, p2, p3) r h
/-! ### isochrone/isochroneref08.Check -/
def r08_Check (K : Nat) (p0 : NodeA) (p1 : Int) : Option Int := ((
  if (decide (p1 < (1 : Int))) then
   some true
  else
   some (decide ((3 : Int) < p1))) : Option Bool).bind (fun v1_0 =>
 if v1_0 then
  some (1 : Int)
 else
  ((
   (r08_Size K p0).bind fun r7 =>
   if (decide ((4000 : Int) < r7)) then
    some true
   else
    (r08_Levels K p0).bind fun r10 =>
    some (decide ((60 : Int) < r10))) : Option Bool).bind (fun v5_0 =>
  if v5_0 then
   some (2 : Int)
  else
   (r08_Sort K p0.op).bind fun r13 =>
   if (r13 != p1) then
    some (80 : Int)
   else
    (r08_well K p0 p1 false false).bind fun r16 =>
    if (!r16) then
     some (3 : Int)
    else
     some (0 : Int)))
set_option maxHeartbeats 4000000 in
theorem r08_Check_ok {K : Nat} {p0 : NodeA} {p1 : Int} {r : Int} (h : r08_Check K p0 p1 = some r) : Cn Tryz.prog 6 [aggV p0.enc, .d (.val (.int .i64 p1))] (.d (.val (.int .i64 r))) := by
 refine Cn.oz Tryz.func6 Tryz.call6 Tryz.ntmps6 Tryz.results6 fun hfit => ?_
 unfold r08_Check at h
 refine AW.kr [] [0, 1] ?_
 refine AW.ks [0] [1, 2] ?_
 refine AW.one ?_
 refine AW.block ?_
 refine AW.jn h (fun v1_0 => [(1, vI p1), (2, .ptr 0 6 0 0), (5, vB v1_0)]) (fun v1_0 => [vE p0.enc]) (fun oJ2 h => ?_) fun v1_0 h => ?_
 ·refine AW.rp ?_
  refine sK h (fun hb3 h => ?_) fun hb3 h => ?_
  ·exact ja [0] h
  exact ja [0] h
 refine AW.tt h (fun hb4 h => ?_) fun hb4 h => ?_
 ·refine AW.ro ?_
  refine AW.ret ?_
  cases h; refine nz ?_; exact .same _
 refine AW.jn h (fun v5_0 => [(1, vI p1), (2, .ptr 0 6 0 0), (12, vB v5_0)]) (fun v5_0 => [vE p0.enc]) (fun oJ6 h => ?_) fun v5_0 h => ?_
 ·refine AW.rp ?_
  refine cm h r08_Size_ok fun r7 hx8 h => ?_
  refine sK h (fun hb9 h => ?_) fun hb9 h => ?_
  ·exact ja [0] h
  refine cm h r08_Levels_ok fun r10 hx11 h => ?_
  exact ja [0] h
 refine AW.tt h (fun hb12 h => ?_) fun hb12 h => ?_
 ·refine AW.ro ?_
  refine AW.ret ?_
  cases h; refine nz ?_; exact .same _
 refine AW.ro ?_
 refine cm h r08_Sort_ok fun r13 hx14 h => ?_
 refine AW.ks [0] [1, 2, 21] ?_
 refine AW.tt h (fun hb15 h => ?_) fun hb15 h => ?_
 ·refine AW.ro ?_
  refine AW.ret ?_
  cases h; refine nz ?_; exact .same _
 refine AW.ro ?_
 refine cm h r08_well_ok fun r16 hx17 h => ?_
 refine AW.ks [] [27] ?_
 refine AW.tk h (fun hb18 h => ?_) fun hb18 h => ?_
 ·refine AW.ro ?_
  refine AW.ret ?_
  cases h; refine nz ?_; exact .same _
 refine AW.kr [] [] ?_
 refine AW.ret ?_
 cases h; refine nz ?_; exact .same _
/-! ### isochrone/isochroneref10.Variable -/
def r10_Variable (K : Nat) (p0 : ByteArray) : Option Bool := ((
  ((
   if (decide ((0 : Int) < (p0.size : Int))) then
    (strAt p0 (IntKind.wrap .i64 ((p0.size : Int) - (1 : Int)))).bind fun c6 =>
    some ((c6.toNat : Int) == (39 : Int))
   else
    some false) : Option Bool).bind (fun v3_0 =>
  if v3_0 then
   (cutStr p0 none (some (IntKind.wrap .i64 ((p0.size : Int) - (1 : Int))))).bind fun s9 =>
   some s9
  else
   some p0)) : Option ByteArray).bind (fun v1_0 =>
 (r08_Name K v1_0).bind fun r11 =>
 some r11)
set_option maxHeartbeats 4000000 in
theorem r10_Variable_ok {K : Nat} {p0 : ByteArray} {r : Bool} (h : r10_Variable K p0 = some r) : Cn Tryz.prog 23 [.d (.val (.string p0))] (.d (.val (.bool r))) := by
 refine Cn.oz Tryz.func23 Tryz.call23 Tryz.ntmps23 Tryz.results23 fun hfit => ?_
 unfold r10_Variable at h
 refine AW.kr [] [0] ?_
 refine AW.ks [] [0] ?_
 refine AW.jn h (fun v1_0 => [(0, vS v1_0)]) (fun v1_0 => []) (fun oJ2 h => ?_) fun v1_0 h => ?_
 ·refine AW.jn h (fun v3_0 => [(0, vS p0), (13, vB v3_0)]) (fun v3_0 => []) (fun oJ4 h => ?_) fun v3_0 h => ?_
  ·refine AW.rp ?_
   refine sK h (fun hb5 h => ?_) fun hb5 h => ?_
   ·refine bb h fun c6 hx7 h => ?_
    exact ja [] h
   exact ja [] h
  refine AW.tk h (fun hb8 h => ?_) fun hb8 h => ?_
  ·refine AW.rp ?_
   refine bb h fun s9 hx10 h => ?_
   exact ja [] h
  exact ja [] h
 refine AW.ro ?_
 refine cm h r08_Name_ok fun r11 hx12 h => ?_
 refine AW.ret ?_
 cases h; refine nz ?_; exact .same _
/-! ### isochrone/isochroneref01.Cmp -/
def r01_Cmp (K : Nat) (p0 : List Int) (p1 : List Int) : Option Int := if ((p0.length : Int) != (p1.length : Int)) then
  if (decide ((p0.length : Int) < (p1.length : Int))) then
   some (-1 : Int)
  else
   some (1 : Int)
 else
  ((iter (S := Int) (R := Out Unit _) K (fun again i3_0 =>
   if (decide ((0 : Int) ≤ i3_0)) then
    (idx p0 i3_0).bind fun x8 =>
    (idx p1 i3_0).bind fun x10 =>
    if (x8 != x10) then
     if (decide (x8 < x10)) then
      outM (
       some (-1 : Int))
     else
      outM (
       some (1 : Int))
    else
     again (IntKind.wrap .i64 (i3_0 - (1 : Int)))
   else
    some (.go ())) (IntKind.wrap .i64 ((p0.length : Int) - (1 : Int)))) : Option (Out Unit _)).bind (Out.fin fun _ =>
  some (0 : Int))
set_option maxHeartbeats 4000000 in
theorem r01_Cmp_ok {K : Nat} {p0 : List Int} {p1 : List Int} {r : Int} (h : r01_Cmp K p0 p1 = some r) : Cn Tryz.prog 94 [.d (slD i64V p0), .d (slD i64V p1)] (.d (.val (.int .i64 r))) := by
 refine Cn.oz Tryz.func94 Tryz.call94 Tryz.ntmps94 Tryz.results94 fun hfit => ?_
 unfold r01_Cmp at h
 refine AW.kr [] [0, 1] ?_
 refine AW.ks [] [0, 1] ?_
 refine AW.one ?_
 refine AW.ro ?_
 refine AW.ks [] [0, 1, 10] ?_
 refine AW.tk h (fun hb1 h => ?_) fun hb1 h => ?_
 ·refine AW.one ?_
  refine AW.ro ?_
  refine AW.ks [] [15] ?_
  refine AW.tk h (fun hb2 h => ?_) fun hb2 h => ?_
  ·refine AW.ro ?_
   refine AW.ret ?_
   cases h; refine nz ?_; exact .same _
  refine AW.kr [] [] ?_
  refine AW.ret ?_
  cases h; refine nz ?_; exact .same _
 refine AW.ks [] [0, 1] ?_
 refine AW.one ?_
 refine AW.ro ?_
 refine AW.ks [] [0, 1, 5] ?_
 refine AW.lp h (fun _ => []) (fun _ => []) (fun i3_0 => [(0, vL i64V p0), (1, vL i64V p1), (5, vI i3_0)]) (fun i3_0 => []) [] (fun oJ6 hJ6 again i3_0 h => ?_) fun ⟨⟩ h => ?_
 ·refine AW.one ?_
  refine AW.ro ?_
  refine AW.ks [] [0, 1, 5, 20] ?_
  refine AW.tt h (fun hb7 h => ?_) fun hb7 h => ?_
  ·refine AW.sk ?_
   refine AW.ks [] [0, 1, 5] ?_
   refine AW.one ?_
   refine AW.block ?_
   refine AW.ro ?_
   refine bx h fun x8 h0 h1 h => ?_
   refine bx h fun x10 h0 h1 h => ?_
   refine AW.ks [] [0, 1, 5, 31] ?_
   refine AW.tk h (fun hb12 h => ?_) fun hb12 h => ?_
   ·refine AW.one ?_
    refine AW.ro ?_
    refine AW.ks [] [40] ?_
    refine AW.tk h (fun hb13 h => ?_) fun hb13 h => ?_
    ·refine AW.ro ?_
     refine AW.ret ?_
     have h := up h hJ6
     cases h; refine nz ?_; exact .same _
    refine AW.kr [] [] ?_
    refine AW.ret ?_
    have h := up h hJ6
    cases h; refine nz ?_; exact .same _
   refine AW.ks [] [0, 1, 5] ?_
   refine AW.rp ?_
   exact na [] h
  refine AW.ex ?_
  exact jo [] h
 refine AW.kr [] [] ?_
 refine AW.ret ?_
 cases h; refine nz ?_; exact .same _
/-! ### isochrone/isochroneref01.Int -/
def r01_Int (K : Nat) (p0 : Int) : Option (List Int) := ((iter (S := Int × (List Int)) (R := (List Int)) K (fun again (i1_0, i1_1) =>
  if (decide ((0 : Int) < i1_0)) then
   (must ((10000 : Int) != 0)).bind fun z6 =>
   (appO 8 i1_1 [i1_0.tmod (10000 : Int)]).bind fun l8 =>
   (must ((10000 : Int) != 0)).bind fun z10 =>
   again (IntKind.wrap .i64 (i1_0.tdiv (10000 : Int)), l8)
  else
   some i1_1) (p0, ([] : List Int))) : Option (List Int)).bind (fun e2_0 =>
 some e2_0)
set_option maxHeartbeats 4000000 in
theorem r01_Int_ok {K : Nat} {p0 : Int} {r : (List Int)} (h : r01_Int K p0 = some r) : Cn Tryz.prog 102 [.d (.val (.int .i64 p0))] (.d (slD i64V r)) := by
 refine Cn.ofA mixed Tryz.func102 rfl Tryz.call102 Tryz.ntmps102 Tryz.results102 (by simp) (by simp only [go_sem, reduceEqDiff, reduceAdd, reduceSub, reduceMul, reduceLeDiff, reduceLT, Nat.reduceBEq, reduceIte]) fun hfit => ?_
 unfold r01_Int at h
 refine AW.kp [] [0] ?_
 refine AW.op mixed ?_
 refine AW.kp [] [0] ?_
 refine AW.op mixed ?_
 refine AW.cu [0] [(0, .d (.val (.int .i64 p0))), (3, .msl 0 1 0 (([] : List Int).length))] [some ⟨1, (([] : List Int).map i64V).map (·.map .d)⟩] ?_
 refine AW.one ?_
 refine obindE h fun oJ4 h hJ4 => ?_
 refine AW.join (S := (List Int)) (fun e2_0 => [(3, .msl 0 1 0 (e2_0.length))]) (fun e2_0 => [some ⟨1, (e2_0.map i64V).map (·.map .d)⟩]) (fun x => x = oJ4) ?_ ?_
 ·refine AW.block ?_
  refine AW.iter (S := Int × (List Int)) (fun (i1_0, i1_1) => [(0, .d (.val (.int .i64 i1_0))), (3, .msl 0 1 0 (i1_1.length))]) (fun (i1_0, i1_1) => [some ⟨1, (i1_1.map i64V).map (·.map .d)⟩]) [0] h (by simp only [go_sem, reduceEqDiff, reduceAdd, reduceSub, reduceMul, reduceLeDiff, reduceLT, Nat.reduceBEq, reduceIte]) ?_
  rintro again ⟨i1_0, i1_1⟩ h
  try dsimp only at h
  refine AW.one ?_
  refine AW.op mixed ?_
  refine AW.cu [0] [(0, .d (.val (.int .i64 i1_0))), (3, .msl 0 1 0 (i1_1.length)), (6, .d (.val (.bool (decide ((0 : Int) < i1_0)))))] [some ⟨1, (i1_1.map i64V).map (·.map .d)⟩] ?_
  refine AW.ts (decide ((0 : Int) < i1_0)) (fun hb5 => ?_) (fun hb5 => ?_)
  ·have h := ifT hb5 h
   refine AW.sk ?_
   refine AW.cu [0] [(0, .d (.val (.int .i64 i1_0))), (3, .msl 0 1 0 (i1_1.length))] [some ⟨1, (i1_1.map i64V).map (·.map .d)⟩] ?_
   refine AW.block ?_
   refine AW.one ?_
   refine AW.reg mixed (by kernel_rfl) ?_
   apply obindE h; intro z6 hx7 h
   try simp only [go_sem, reduceEqDiff, reduceAdd, reduceSub, reduceMul, reduceLeDiff, reduceLT, Nat.reduceBEq, reduceIte, bop_rem (P := Tryz.prog) (must_ne hx7)]
   apply obindE h; intro l8 hx9 h
   refine appR (f := i64V) hx9 rfl (by simp only [go_sem, reduceEqDiff, reduceAdd, reduceSub, reduceMul, reduceLeDiff, reduceLT, Nat.reduceBEq, reduceIte, bop_rem (P := Tryz.prog) (must_ne hx7)]) (by simp only [go_sem, reduceEqDiff, reduceAdd, reduceSub, reduceMul, reduceLeDiff, reduceLT, Nat.reduceBEq, reduceIte, bop_rem (P := Tryz.prog) (must_ne hx7)]) (by simp only [go_sem, reduceEqDiff, reduceAdd, reduceSub, reduceMul, reduceLeDiff, reduceLT, Nat.reduceBEq, reduceIte, bop_rem (P := Tryz.prog) (must_ne hx7)]) ?_
   try simp only [go_sem, reduceEqDiff, reduceAdd, reduceSub, reduceMul, reduceLeDiff, reduceLT, Nat.reduceBEq, reduceIte, bop_rem (P := Tryz.prog) (must_ne hx7)]
   refine AW.cut [5] [(0, .d (.val (.int .i64 i1_0))), (3, .msl 0 1 0 (l8.length))] [some ⟨1, (l8.map i64V).map (·.map .d)⟩] (by simp only [go_sem, reduceEqDiff, reduceAdd, reduceSub, reduceMul, reduceLeDiff, reduceLT, Nat.reduceBEq, reduceIte, bop_rem (P := Tryz.prog) (must_ne hx7)]) ?_
   refine AW.reg mixed (by kernel_rfl) ?_
   apply obindE h; intro z10 hx11 h
   try simp only [go_sem, reduceEqDiff, reduceAdd, reduceSub, reduceMul, reduceLeDiff, reduceLT, Nat.reduceBEq, reduceIte, bop_quo (P := Tryz.prog) (must_ne hx11)]
   refine NextQ.mk (IntKind.wrap .i64 (i1_0.tdiv (10000 : Int)), l8) [0] h (by simp only [go_sem, reduceEqDiff, reduceAdd, reduceSub, reduceMul, reduceLeDiff, reduceLT, Nat.reduceBEq, reduceIte, bop_quo (P := Tryz.prog) (must_ne hx11)])
  have h := ifF hb5 h
  refine AW.ex ?_
  exact JoinQ.ar i1_1 [0] (Option.some.inj h)
 rintro e2_0 rfl
 have h := hJ4
 try dsimp only [Out.fin] at h
 refine nz ?_
 refine AW.cu [0] [(3, .msl 0 1 0 (e2_0.length))] [some ⟨1, (e2_0.map i64V).map (·.map .d)⟩] ?_
 refine AW.op mixed ?_
 refine AW.ret ?_
 obtain rfl := Option.some.inj h
 refine nz ?_
 exact sealArr (by simp only [go_sem, reduceEqDiff, reduceAdd, reduceSub, reduceMul, reduceLeDiff, reduceLT, Nat.reduceBEq, reduceIte])
/-! ### isochrone/isochroneref01.trim -/
def r01_trim (K : Nat) (p0 : List Int) : Option (List Int) := ((iter (S := Int) (R := Int) K (fun again i1_0 =>
  ((
   ((
    if (decide ((0 : Int) < i1_0)) then
     (idx p0 (IntKind.wrap .i64 (i1_0 - (1 : Int)))).bind fun x10 =>
     some (x10 == (0 : Int))
    else
     some false) : Option Bool).bind (fun v7_0 =>
   if v7_0 then
    some (.go ())
   else
    outM (
     some i1_0))) : Option (Out Unit _)).bind (Out.fin fun _ =>
  again (IntKind.wrap .i64 (i1_0 - (1 : Int))))) (p0.length : Int)) : Option Int).bind (fun e2_0 =>
 (cutL p0 none (some e2_0)).bind fun s13 =>
 some s13)
set_option maxHeartbeats 4000000 in
theorem r01_trim_ok {K : Nat} {p0 : List Int} {r : (List Int)} (h : r01_trim K p0 = some r) : Cn Tryz.prog 131 [.d (slD i64V p0)] (.d (slD i64V r)) := by
 refine Cn.oz Tryz.func131 Tryz.call131 Tryz.ntmps131 Tryz.results131 fun hfit => ?_
 unfold r01_trim at h
 refine AW.kr [] [0] ?_
 refine AW.kr [] [0] ?_
 refine AW.ks [] [0, 3] ?_
 refine AW.ln h (fun e2_0 => [(0, vL i64V p0), (3, vI e2_0)]) (fun e2_0 => []) (fun i1_0 => [(0, vL i64V p0), (3, vI i1_0)]) (fun i1_0 => []) [] (fun oJ4 again i1_0 h => ?_) fun e2_0 h => ?_
 ·refine AW.jo h (fun _ => [(0, vL i64V p0), (3, vI i1_0)]) (fun _ => []) (fun oJ6 h hJ6 => ?_) fun ⟨⟩ h => ?_
  ·refine AW.jn h (fun v7_0 => [(0, vL i64V p0), (3, vI i1_0), (15, vB v7_0)]) (fun v7_0 => []) (fun oJ8 h => ?_) fun v7_0 h => ?_
   ·refine AW.rp ?_
    refine sK h (fun hb9 h => ?_) fun hb9 h => ?_
    ·refine bx h fun x10 h0 h1 h => ?_
     exact ja [] h
    exact ja [] h
   refine AW.tt h (fun hb12 h => ?_) fun hb12 h => ?_
   ·refine AW.sk ?_
    exact jo [] h
   refine AW.ex ?_
   have h := up h hJ6
   exact ja [] h
  refine AW.block ?_
  refine AW.rp ?_
  exact na [] h
 refine AW.kr [] [0, 3] ?_
 refine bb h fun s13 hx14 h => ?_
 refine AW.ret ?_
 cases h; refine nz ?_; exact .same _
/-! ### isochrone/isochroneref01.Small -/
def r01_Small (K : Nat) (p0 : List Int) (p1 : Int) (p2 : Int) : Option (List Int) := (makC 8 (0 : Int) (IntKind.wrap .i64 ((p0.length : Int) + (2 : Int))) (0 : Int)).bind fun l1 =>
 ((iter (S := Int × Int × (List Int)) (R := (Int × (List Int))) K (fun again (i3_0, i3_1, i3_2) =>
  if (decide (i3_1 < (p0.length : Int))) then
   (idx p0 i3_1).bind fun x8 =>
   (must ((10000 : Int) != 0)).bind fun z10 =>
   (appO 8 i3_2 [(IntKind.wrap .i64 (i3_0 + (IntKind.wrap .i64 (x8 * p1)))).tmod (10000 : Int)]).bind fun l12 =>
   (must ((10000 : Int) != 0)).bind fun z14 =>
   again (IntKind.wrap .i64 ((IntKind.wrap .i64 (i3_0 + (IntKind.wrap .i64 (x8 * p1)))).tdiv (10000 : Int)), IntKind.wrap .i64 (i3_1 + (1 : Int)), l12)
  else
   some (i3_0, i3_2)) (p2, (0 : Int), l1)) : Option (Int × (List Int))).bind (fun (e4_0, e4_1) =>
 ((iter (S := Int × (List Int)) (R := (List Int)) K (fun again (i16_0, i16_1) =>
  if (decide ((0 : Int) < i16_0)) then
   (must ((10000 : Int) != 0)).bind fun z21 =>
   (appO 8 i16_1 [i16_0.tmod (10000 : Int)]).bind fun l23 =>
   (must ((10000 : Int) != 0)).bind fun z25 =>
   again (IntKind.wrap .i64 (i16_0.tdiv (10000 : Int)), l23)
  else
   some i16_1) (e4_0, e4_1)) : Option (List Int)).bind (fun e17_0 =>
 (r01_trim K e17_0).bind fun r27 =>
 some r27))
set_option maxHeartbeats 4000000 in
theorem r01_Small_ok {K : Nat} {p0 : List Int} {p1 : Int} {p2 : Int} {r : (List Int)} (h : r01_Small K p0 p1 p2 = some r) : Cn Tryz.prog 120 [.d (slD i64V p0), .d (.val (.int .i64 p1)), .d (.val (.int .i64 p2))] (.d (slD i64V r)) := by
 refine Cn.ofA mixed Tryz.func120 rfl Tryz.call120 Tryz.ntmps120 Tryz.results120 (by simp) (by simp only [go_sem, reduceEqDiff, reduceAdd, reduceSub, reduceMul, reduceLeDiff, reduceLT, Nat.reduceBEq, reduceIte]) fun hfit => ?_
 unfold r01_Small at h
 refine AW.kp [] [0, 1, 2] ?_
 refine AW.op mixed ?_
 refine AW.kp [] [0, 1, 2] ?_
 refine AW.op mixed ?_
 apply obindE h; intro l1 hx2 h
 refine makC' (f := i64V) hx2 (nz ?_) ?_
 ·exact ⟨.same _, trivial⟩
 try simp only [go_sem, reduceEqDiff, reduceAdd, reduceSub, reduceMul, reduceLeDiff, reduceLT, Nat.reduceBEq, reduceIte]
 refine AW.cu [3] [(0, .d (slD i64V p0)), (1, .d (.val (.int .i64 p1))), (2, .d (.val (.int .i64 p2))), (7, .msl 0 1 0 (l1.length))] [some ⟨1, (l1.map i64V).map (·.map .d)⟩] ?_
 refine AW.one ?_
 refine AW.op mixed ?_
 refine AW.cu [0] [(1, .d (.val (.int .i64 p1))), (2, .d (.val (.int .i64 p2))), (7, .msl 0 1 0 (l1.length)), (14, .d (slD i64V p0)), (15, .d (.val (.int .i64 (p0.length : Int)))), (16, .d (.val (.int .i64 (0 : Int))))] [some ⟨1, (l1.map i64V).map (·.map .d)⟩] ?_
 refine obindE h fun oJ6 h hJ6 => ?_
 refine AW.join (S := Int × (List Int)) (fun (e4_0, e4_1) => [(2, .d (.val (.int .i64 e4_0))), (7, .msl 0 1 0 (e4_1.length))]) (fun (e4_0, e4_1) => [some ⟨1, (e4_1.map i64V).map (·.map .d)⟩]) (fun x => x = oJ6) ?_ ?_
 ·refine AW.block ?_
  refine AW.iter (S := Int × Int × (List Int)) (fun (i3_0, i3_1, i3_2) => [(1, .d (.val (.int .i64 p1))), (2, .d (.val (.int .i64 i3_0))), (7, .msl 0 1 0 (i3_2.length)), (14, .d (slD i64V p0)), (15, .d (.val (.int .i64 (p0.length : Int)))), (16, .d (.val (.int .i64 i3_1)))]) (fun (i3_0, i3_1, i3_2) => [some ⟨1, (i3_2.map i64V).map (·.map .d)⟩]) [0] h (by simp only [go_sem, reduceEqDiff, reduceAdd, reduceSub, reduceMul, reduceLeDiff, reduceLT, Nat.reduceBEq, reduceIte]) ?_
  rintro again ⟨i3_0, i3_1, i3_2⟩ h
  try dsimp only at h
  refine AW.op mixed ?_
  refine AW.cu [0] [(1, .d (.val (.int .i64 p1))), (2, .d (.val (.int .i64 i3_0))), (7, .msl 0 1 0 (i3_2.length)), (14, .d (slD i64V p0)), (15, .d (.val (.int .i64 (p0.length : Int)))), (16, .d (.val (.int .i64 i3_1))), (17, .d (.val (.bool (decide (i3_1 < (p0.length : Int))))))] [some ⟨1, (i3_2.map i64V).map (·.map .d)⟩] ?_
  refine AW.one ?_
  refine AW.ts (decide (i3_1 < (p0.length : Int))) (fun hb7 => ?_) (fun hb7 => ?_)
  ·have h := ifT hb7 h
   refine AW.sk ?_
   refine AW.cu [0] [(1, .d (.val (.int .i64 p1))), (2, .d (.val (.int .i64 i3_0))), (7, .msl 0 1 0 (i3_2.length)), (14, .d (slD i64V p0)), (15, .d (.val (.int .i64 (p0.length : Int)))), (16, .d (.val (.int .i64 i3_1)))] [some ⟨1, (i3_2.map i64V).map (·.map .d)⟩] ?_
   refine AW.one ?_
   refine AW.block ?_
   refine AW.one ?_
   refine AW.reg mixed (by kernel_rfl) ?_
   apply obindE h; intro x8 hx9 h
   try simp only [go_sem, reduceEqDiff, reduceAdd, reduceSub, reduceMul, reduceLeDiff, reduceLT, Nat.reduceBEq, reduceIte, (idx_some hx9).1, (idx_some hx9).2]
   refine AW.cut [0] [(1, .d (.val (.int .i64 p1))), (2, .d (.val (.int .i64 i3_0))), (7, .msl 0 1 0 (i3_2.length)), (9, .d (.val (.int .i64 x8))), (14, .d (slD i64V p0)), (15, .d (.val (.int .i64 (p0.length : Int)))), (16, .d (.val (.int .i64 i3_1)))] [some ⟨1, (i3_2.map i64V).map (·.map .d)⟩] (by simp only [go_sem, reduceEqDiff, reduceAdd, reduceSub, reduceMul, reduceLeDiff, reduceLT, Nat.reduceBEq, reduceIte, (idx_some hx9).1, (idx_some hx9).2]) ?_
   refine AW.op mixed ?_
   refine AW.cu [0] [(1, .d (.val (.int .i64 p1))), (2, .d (.val (.int .i64 (IntKind.wrap .i64 (i3_0 + (IntKind.wrap .i64 (x8 * p1))))))), (7, .msl 0 1 0 (i3_2.length)), (14, .d (slD i64V p0)), (15, .d (.val (.int .i64 (p0.length : Int)))), (16, .d (.val (.int .i64 i3_1)))] [some ⟨1, (i3_2.map i64V).map (·.map .d)⟩] ?_
   refine AW.one ?_
   refine AW.reg mixed (by kernel_rfl) ?_
   apply obindE h; intro z10 hx11 h
   try simp only [go_sem, reduceEqDiff, reduceAdd, reduceSub, reduceMul, reduceLeDiff, reduceLT, Nat.reduceBEq, reduceIte, bop_rem (P := Tryz.prog) (must_ne hx11)]
   apply obindE h; intro l12 hx13 h
   refine appR (f := i64V) hx13 rfl (by simp only [go_sem, reduceEqDiff, reduceAdd, reduceSub, reduceMul, reduceLeDiff, reduceLT, Nat.reduceBEq, reduceIte, bop_rem (P := Tryz.prog) (must_ne hx11)]) (by simp only [go_sem, reduceEqDiff, reduceAdd, reduceSub, reduceMul, reduceLeDiff, reduceLT, Nat.reduceBEq, reduceIte, bop_rem (P := Tryz.prog) (must_ne hx11)]) (by simp only [go_sem, reduceEqDiff, reduceAdd, reduceSub, reduceMul, reduceLeDiff, reduceLT, Nat.reduceBEq, reduceIte, bop_rem (P := Tryz.prog) (must_ne hx11)]) ?_
   try simp only [go_sem, reduceEqDiff, reduceAdd, reduceSub, reduceMul, reduceLeDiff, reduceLT, Nat.reduceBEq, reduceIte, bop_rem (P := Tryz.prog) (must_ne hx11)]
   refine AW.cut [5] [(1, .d (.val (.int .i64 p1))), (2, .d (.val (.int .i64 (IntKind.wrap .i64 (i3_0 + (IntKind.wrap .i64 (x8 * p1))))))), (7, .msl 0 1 0 (l12.length)), (14, .d (slD i64V p0)), (15, .d (.val (.int .i64 (p0.length : Int)))), (16, .d (.val (.int .i64 i3_1)))] [some ⟨1, (l12.map i64V).map (·.map .d)⟩] (by simp only [go_sem, reduceEqDiff, reduceAdd, reduceSub, reduceMul, reduceLeDiff, reduceLT, Nat.reduceBEq, reduceIte, bop_rem (P := Tryz.prog) (must_ne hx11)]) ?_
   refine AW.reg mixed (by kernel_rfl) ?_
   apply obindE h; intro z14 hx15 h
   try simp only [go_sem, reduceEqDiff, reduceAdd, reduceSub, reduceMul, reduceLeDiff, reduceLT, Nat.reduceBEq, reduceIte, bop_quo (P := Tryz.prog) (must_ne hx15)]
   refine AW.cut [0] [(1, .d (.val (.int .i64 p1))), (2, .d (.val (.int .i64 (IntKind.wrap .i64 ((IntKind.wrap .i64 (i3_0 + (IntKind.wrap .i64 (x8 * p1)))).tdiv (10000 : Int)))))), (7, .msl 0 1 0 (l12.length)), (14, .d (slD i64V p0)), (15, .d (.val (.int .i64 (p0.length : Int)))), (16, .d (.val (.int .i64 i3_1)))] [some ⟨1, (l12.map i64V).map (·.map .d)⟩] (by simp only [go_sem, reduceEqDiff, reduceAdd, reduceSub, reduceMul, reduceLeDiff, reduceLT, Nat.reduceBEq, reduceIte, bop_quo (P := Tryz.prog) (must_ne hx15)]) ?_
   refine AW.rg mixed ?_
   exact NextQ.ar (IntKind.wrap .i64 ((IntKind.wrap .i64 (i3_0 + (IntKind.wrap .i64 (x8 * p1)))).tdiv (10000 : Int)), IntKind.wrap .i64 (i3_1 + (1 : Int)), l12) [0] h
  have h := ifF hb7 h
  refine AW.ex ?_
  exact JoinQ.ar (i3_0, i3_2) [0] (Option.some.inj h)
 rintro ⟨e4_0, e4_1⟩ rfl
 have h := hJ6
 try dsimp only [Out.fin] at h
 refine nz ?_
 refine AW.cu [0] [(2, .d (.val (.int .i64 e4_0))), (7, .msl 0 1 0 (e4_1.length))] [some ⟨1, (e4_1.map i64V).map (·.map .d)⟩] ?_
 refine AW.one ?_
 refine obindE h fun oJ19 h hJ19 => ?_
 refine AW.join (S := (List Int)) (fun e17_0 => [(7, .msl 0 1 0 (e17_0.length))]) (fun e17_0 => [some ⟨1, (e17_0.map i64V).map (·.map .d)⟩]) (fun x => x = oJ19) ?_ ?_
 ·refine AW.block ?_
  refine AW.iter (S := Int × (List Int)) (fun (i16_0, i16_1) => [(2, .d (.val (.int .i64 i16_0))), (7, .msl 0 1 0 (i16_1.length))]) (fun (i16_0, i16_1) => [some ⟨1, (i16_1.map i64V).map (·.map .d)⟩]) [0] h (by simp only [go_sem, reduceEqDiff, reduceAdd, reduceSub, reduceMul, reduceLeDiff, reduceLT, Nat.reduceBEq, reduceIte]) ?_
  rintro again ⟨i16_0, i16_1⟩ h
  try dsimp only at h
  refine AW.one ?_
  refine AW.op mixed ?_
  refine AW.cu [0] [(2, .d (.val (.int .i64 i16_0))), (7, .msl 0 1 0 (i16_1.length)), (34, .d (.val (.bool (decide ((0 : Int) < i16_0)))))] [some ⟨1, (i16_1.map i64V).map (·.map .d)⟩] ?_
  refine AW.ts (decide ((0 : Int) < i16_0)) (fun hb20 => ?_) (fun hb20 => ?_)
  ·have h := ifT hb20 h
   refine AW.sk ?_
   refine AW.cu [0] [(2, .d (.val (.int .i64 i16_0))), (7, .msl 0 1 0 (i16_1.length))] [some ⟨1, (i16_1.map i64V).map (·.map .d)⟩] ?_
   refine AW.block ?_
   refine AW.one ?_
   refine AW.reg mixed (by kernel_rfl) ?_
   apply obindE h; intro z21 hx22 h
   try simp only [go_sem, reduceEqDiff, reduceAdd, reduceSub, reduceMul, reduceLeDiff, reduceLT, Nat.reduceBEq, reduceIte, bop_rem (P := Tryz.prog) (must_ne hx22)]
   apply obindE h; intro l23 hx24 h
   refine appR (f := i64V) hx24 rfl (by simp only [go_sem, reduceEqDiff, reduceAdd, reduceSub, reduceMul, reduceLeDiff, reduceLT, Nat.reduceBEq, reduceIte, bop_rem (P := Tryz.prog) (must_ne hx22)]) (by simp only [go_sem, reduceEqDiff, reduceAdd, reduceSub, reduceMul, reduceLeDiff, reduceLT, Nat.reduceBEq, reduceIte, bop_rem (P := Tryz.prog) (must_ne hx22)]) (by simp only [go_sem, reduceEqDiff, reduceAdd, reduceSub, reduceMul, reduceLeDiff, reduceLT, Nat.reduceBEq, reduceIte, bop_rem (P := Tryz.prog) (must_ne hx22)]) ?_
   try simp only [go_sem, reduceEqDiff, reduceAdd, reduceSub, reduceMul, reduceLeDiff, reduceLT, Nat.reduceBEq, reduceIte, bop_rem (P := Tryz.prog) (must_ne hx22)]
   refine AW.cut [5] [(2, .d (.val (.int .i64 i16_0))), (7, .msl 0 1 0 (l23.length))] [some ⟨1, (l23.map i64V).map (·.map .d)⟩] (by simp only [go_sem, reduceEqDiff, reduceAdd, reduceSub, reduceMul, reduceLeDiff, reduceLT, Nat.reduceBEq, reduceIte, bop_rem (P := Tryz.prog) (must_ne hx22)]) ?_
   refine AW.reg mixed (by kernel_rfl) ?_
   apply obindE h; intro z25 hx26 h
   try simp only [go_sem, reduceEqDiff, reduceAdd, reduceSub, reduceMul, reduceLeDiff, reduceLT, Nat.reduceBEq, reduceIte, bop_quo (P := Tryz.prog) (must_ne hx26)]
   refine NextQ.mk (IntKind.wrap .i64 (i16_0.tdiv (10000 : Int)), l23) [0] h (by simp only [go_sem, reduceEqDiff, reduceAdd, reduceSub, reduceMul, reduceLeDiff, reduceLT, Nat.reduceBEq, reduceIte, bop_quo (P := Tryz.prog) (must_ne hx26)])
  have h := ifF hb20 h
  refine AW.ex ?_
  exact JoinQ.ar i16_1 [0] (Option.some.inj h)
 rintro e17_0 rfl
 have h := hJ19
 try dsimp only [Out.fin] at h
 refine nz ?_
 refine AW.cu [0] [(7, .msl 0 1 0 (e17_0.length))] [some ⟨1, (e17_0.map i64V).map (·.map .d)⟩] ?_
 refine AW.op mixed ?_
 apply obindE h; intro r27 hx28 h
 have hc := nx (r01_trim_ok (h := hx28))
 refine callK_seal [0] hc ⟨sealArr (by simp only [go_sem, reduceEqDiff, reduceAdd, reduceSub, reduceMul, reduceLeDiff, reduceLT, Nat.reduceBEq, reduceIte]), trivial⟩ (by simp only [go_sem, reduceEqDiff, reduceAdd, reduceSub, reduceMul, reduceLeDiff, reduceLT, Nat.reduceBEq, reduceIte]) (by simp only [go_sem, reduceEqDiff, reduceAdd, reduceSub, reduceMul, reduceLeDiff, reduceLT, Nat.reduceBEq, reduceIte]) ?_
 try simp only [go_sem, reduceEqDiff, reduceAdd, reduceSub, reduceMul, reduceLeDiff, reduceLT, Nat.reduceBEq, reduceIte]
 refine AW.ret ?_
 obtain rfl := Option.some.inj h
 refine nz ?_
 exact .same _
/-! ### isochrone/isochroneref01.Split -/
def r01_Split (K : Nat) (p0 : List Int) (p1 : Int) : Option ((List Int) × Int) := (makO 8 (p0.length : Int) (0 : Int)).bind fun l1 =>
 ((iter (S := Int × Int × (List Int)) (R := (Int × (List Int))) K (fun again (i3_0, i3_1, i3_2) =>
  if (decide ((0 : Int) ≤ i3_1)) then
   (idx p0 i3_1).bind fun x8 =>
   (must (p1 != 0)).bind fun z10 =>
   (idx i3_2 i3_1).bind fun x12 =>
   (must (p1 != 0)).bind fun z14 =>
   again ((IntKind.wrap .i64 ((IntKind.wrap .i64 (i3_0 * (10000 : Int))) + x8)).tmod p1, IntKind.wrap .i64 (i3_1 - (1 : Int)), (i3_2.set (i3_1.toNat) (IntKind.wrap .i64 ((IntKind.wrap .i64 ((IntKind.wrap .i64 (i3_0 * (10000 : Int))) + x8)).tdiv p1))))
  else
   some (i3_0, i3_2)) ((0 : Int), IntKind.wrap .i64 ((p0.length : Int) - (1 : Int)), l1)) : Option (Int × (List Int))).bind (fun (e4_0, e4_1) =>
 (r01_trim K e4_1).bind fun r16 =>
 some (r16, e4_0))
set_option maxHeartbeats 4000000 in
theorem r01_Split_ok {K : Nat} {p0 : List Int} {p1 : Int} {r : (List Int) × Int} (h : r01_Split K p0 p1 = some r) : Cn Tryz.prog 117 [.d (slD i64V p0), .d (.val (.int .i64 p1))] (.tup [.d (slD i64V r.1), .d (.val (.int .i64 r.2))]) := by
 refine Cn.ofA mixed Tryz.func117 rfl Tryz.call117 Tryz.ntmps117 Tryz.results117 (by simp) (by simp only [go_sem, reduceEqDiff, reduceAdd, reduceSub, reduceMul, reduceLeDiff, reduceLT, Nat.reduceBEq, reduceIte]) fun hfit => ?_
 unfold r01_Split at h
 refine AW.kp [] [0, 1] ?_
 refine AW.op mixed ?_
 refine AW.kp [] [0, 1] ?_
 refine AW.op mixed ?_
 apply obindE h; intro l1 hx2 h
 refine makG (f := i64V) hx2 (nz ?_) ?_
 ·exact ⟨.same _, trivial⟩
 try simp only [go_sem, reduceEqDiff, reduceAdd, reduceSub, reduceMul, reduceLeDiff, reduceLT, Nat.reduceBEq, reduceIte]
 refine AW.cu [2] [(0, .d (slD i64V p0)), (1, .d (.val (.int .i64 p1))), (6, .msl 0 1 0 (l1.length))] [some ⟨1, (l1.map i64V).map (·.map .d)⟩] ?_
 refine AW.op mixed ?_
 refine AW.cu [0] [(0, .d (slD i64V p0)), (1, .d (.val (.int .i64 p1))), (6, .msl 0 1 0 (l1.length)), (7, .d (.val (.int .i64 (0 : Int))))] [some ⟨1, (l1.map i64V).map (·.map .d)⟩] ?_
 refine AW.one ?_
 refine AW.op mixed ?_
 refine AW.cu [0] [(0, .d (slD i64V p0)), (1, .d (.val (.int .i64 p1))), (6, .msl 0 1 0 (l1.length)), (7, .d (.val (.int .i64 (0 : Int)))), (8, .d (.val (.int .i64 (IntKind.wrap .i64 ((p0.length : Int) - (1 : Int))))))] [some ⟨1, (l1.map i64V).map (·.map .d)⟩] ?_
 refine obindE h fun oJ6 h hJ6 => ?_
 refine AW.join (S := Int × (List Int)) (fun (e4_0, e4_1) => [(6, .msl 0 1 0 (e4_1.length)), (7, .d (.val (.int .i64 e4_0)))]) (fun (e4_0, e4_1) => [some ⟨1, (e4_1.map i64V).map (·.map .d)⟩]) (fun x => x = oJ6) ?_ ?_
 ·refine AW.block ?_
  refine AW.iter (S := Int × Int × (List Int)) (fun (i3_0, i3_1, i3_2) => [(0, .d (slD i64V p0)), (1, .d (.val (.int .i64 p1))), (6, .msl 0 1 0 (i3_2.length)), (7, .d (.val (.int .i64 i3_0))), (8, .d (.val (.int .i64 i3_1)))]) (fun (i3_0, i3_1, i3_2) => [some ⟨1, (i3_2.map i64V).map (·.map .d)⟩]) [0] h (by simp only [go_sem, reduceEqDiff, reduceAdd, reduceSub, reduceMul, reduceLeDiff, reduceLT, Nat.reduceBEq, reduceIte]) ?_
  rintro again ⟨i3_0, i3_1, i3_2⟩ h
  try dsimp only at h
  refine AW.one ?_
  refine AW.op mixed ?_
  refine AW.cu [0] [(0, .d (slD i64V p0)), (1, .d (.val (.int .i64 p1))), (6, .msl 0 1 0 (i3_2.length)), (7, .d (.val (.int .i64 i3_0))), (8, .d (.val (.int .i64 i3_1))), (16, .d (.val (.bool (decide ((0 : Int) ≤ i3_1)))))] [some ⟨1, (i3_2.map i64V).map (·.map .d)⟩] ?_
  refine AW.ts (decide ((0 : Int) ≤ i3_1)) (fun hb7 => ?_) (fun hb7 => ?_)
  ·have h := ifT hb7 h
   refine AW.sk ?_
   refine AW.cu [0] [(0, .d (slD i64V p0)), (1, .d (.val (.int .i64 p1))), (6, .msl 0 1 0 (i3_2.length)), (7, .d (.val (.int .i64 i3_0))), (8, .d (.val (.int .i64 i3_1)))] [some ⟨1, (i3_2.map i64V).map (·.map .d)⟩] ?_
   refine AW.one ?_
   refine AW.block ?_
   refine AW.one ?_
   refine AW.reg mixed (by kernel_rfl) ?_
   apply obindE h; intro x8 hx9 h
   try simp only [go_sem, reduceEqDiff, reduceAdd, reduceSub, reduceMul, reduceLeDiff, reduceLT, Nat.reduceBEq, reduceIte, (idx_some hx9).1, (idx_some hx9).2]
   refine AW.cut [0] [(0, .d (slD i64V p0)), (1, .d (.val (.int .i64 p1))), (6, .msl 0 1 0 (i3_2.length)), (7, .d (.val (.int .i64 (IntKind.wrap .i64 ((IntKind.wrap .i64 (i3_0 * (10000 : Int))) + x8))))), (8, .d (.val (.int .i64 i3_1)))] [some ⟨1, (i3_2.map i64V).map (·.map .d)⟩] (by simp only [go_sem, reduceEqDiff, reduceAdd, reduceSub, reduceMul, reduceLeDiff, reduceLT, Nat.reduceBEq, reduceIte, (idx_some hx9).1, (idx_some hx9).2]) ?_
   refine AW.one ?_
   refine AW.reg mixed (by kernel_rfl) ?_
   apply obindE h; intro z10 hx11 h
   try simp only [go_sem, reduceEqDiff, reduceAdd, reduceSub, reduceMul, reduceLeDiff, reduceLT, Nat.reduceBEq, reduceIte, bop_quo (P := Tryz.prog) (must_ne hx11)]
   apply obindE h; intro x12 hx13 h
   try simp only [go_sem, reduceEqDiff, reduceAdd, reduceSub, reduceMul, reduceLeDiff, reduceLT, Nat.reduceBEq, reduceIte, bop_quo (P := Tryz.prog) (must_ne hx11), (idx_some hx13).1, idx_lt hx13, (idx_some hx13).2, List.length_set, (rows_set (l := i3_2) (f := i64V) (i := i3_1.toNat) (v' := IntKind.wrap .i64 ((IntKind.wrap .i64 ((IntKind.wrap .i64 (i3_0 * (10000 : Int))) + x8)).tdiv p1)) (row := [.d (.val (.int .i64 (IntKind.wrap .i64 ((IntKind.wrap .i64 ((IntKind.wrap .i64 (i3_0 * (10000 : Int))) + x8)).tdiv p1))))]) (by simp only [go_sem, reduceEqDiff, reduceAdd, reduceSub, reduceMul, reduceLeDiff, reduceLT, Nat.reduceBEq, reduceIte]))]
   refine AW.cut [0] [(0, .d (slD i64V p0)), (1, .d (.val (.int .i64 p1))), (6, .msl 0 1 0 ((i3_2.set (i3_1.toNat) (IntKind.wrap .i64 ((IntKind.wrap .i64 ((IntKind.wrap .i64 (i3_0 * (10000 : Int))) + x8)).tdiv p1))).length)), (7, .d (.val (.int .i64 (IntKind.wrap .i64 ((IntKind.wrap .i64 (i3_0 * (10000 : Int))) + x8))))), (8, .d (.val (.int .i64 i3_1)))] [some ⟨1, ((i3_2.set (i3_1.toNat) (IntKind.wrap .i64 ((IntKind.wrap .i64 ((IntKind.wrap .i64 (i3_0 * (10000 : Int))) + x8)).tdiv p1))).map i64V).map (·.map .d)⟩] (by simp only [go_sem, reduceEqDiff, reduceAdd, reduceSub, reduceMul, reduceLeDiff, reduceLT, Nat.reduceBEq, reduceIte, bop_quo (P := Tryz.prog) (must_ne hx11), (idx_some hx13).1, idx_lt hx13, (idx_some hx13).2, List.length_set, (rows_set (l := i3_2) (f := i64V) (i := i3_1.toNat) (v' := IntKind.wrap .i64 ((IntKind.wrap .i64 ((IntKind.wrap .i64 (i3_0 * (10000 : Int))) + x8)).tdiv p1)) (row := [.d (.val (.int .i64 (IntKind.wrap .i64 ((IntKind.wrap .i64 ((IntKind.wrap .i64 (i3_0 * (10000 : Int))) + x8)).tdiv p1))))]) (by simp only [go_sem, reduceEqDiff, reduceAdd, reduceSub, reduceMul, reduceLeDiff, reduceLT, Nat.reduceBEq, reduceIte]))]) ?_
   refine AW.reg mixed (by kernel_rfl) ?_
   apply obindE h; intro z14 hx15 h
   try simp only [go_sem, reduceEqDiff, reduceAdd, reduceSub, reduceMul, reduceLeDiff, reduceLT, Nat.reduceBEq, reduceIte, bop_rem (P := Tryz.prog) (must_ne hx15)]
   refine AW.cut [0] [(0, .d (slD i64V p0)), (1, .d (.val (.int .i64 p1))), (6, .msl 0 1 0 ((i3_2.set (i3_1.toNat) (IntKind.wrap .i64 ((IntKind.wrap .i64 ((IntKind.wrap .i64 (i3_0 * (10000 : Int))) + x8)).tdiv p1))).length)), (7, .d (.val (.int .i64 ((IntKind.wrap .i64 ((IntKind.wrap .i64 (i3_0 * (10000 : Int))) + x8)).tmod p1)))), (8, .d (.val (.int .i64 i3_1)))] [some ⟨1, ((i3_2.set (i3_1.toNat) (IntKind.wrap .i64 ((IntKind.wrap .i64 ((IntKind.wrap .i64 (i3_0 * (10000 : Int))) + x8)).tdiv p1))).map i64V).map (·.map .d)⟩] (by simp only [go_sem, reduceEqDiff, reduceAdd, reduceSub, reduceMul, reduceLeDiff, reduceLT, Nat.reduceBEq, reduceIte, bop_rem (P := Tryz.prog) (must_ne hx15)]) ?_
   refine AW.rg mixed ?_
   exact NextQ.ar ((IntKind.wrap .i64 ((IntKind.wrap .i64 (i3_0 * (10000 : Int))) + x8)).tmod p1, IntKind.wrap .i64 (i3_1 - (1 : Int)), (i3_2.set (i3_1.toNat) (IntKind.wrap .i64 ((IntKind.wrap .i64 ((IntKind.wrap .i64 (i3_0 * (10000 : Int))) + x8)).tdiv p1)))) [0] h
  have h := ifF hb7 h
  refine AW.ex ?_
  exact JoinQ.ar (i3_0, i3_2) [0] (Option.some.inj h)
 rintro ⟨e4_0, e4_1⟩ rfl
 have h := hJ6
 try dsimp only [Out.fin] at h
 refine nz ?_
 refine AW.cu [0] [(6, .msl 0 1 0 (e4_1.length)), (7, .d (.val (.int .i64 e4_0)))] [some ⟨1, (e4_1.map i64V).map (·.map .d)⟩] ?_
 refine AW.op mixed ?_
 apply obindE h; intro r16 hx17 h
 have hc := nx (r01_trim_ok (h := hx17))
 refine callK_seal [0] hc ⟨sealArr (by simp only [go_sem, reduceEqDiff, reduceAdd, reduceSub, reduceMul, reduceLeDiff, reduceLT, Nat.reduceBEq, reduceIte]), trivial⟩ (by simp only [go_sem, reduceEqDiff, reduceAdd, reduceSub, reduceMul, reduceLeDiff, reduceLT, Nat.reduceBEq, reduceIte]) (by simp only [go_sem, reduceEqDiff, reduceAdd, reduceSub, reduceMul, reduceLeDiff, reduceLT, Nat.reduceBEq, reduceIte]) ?_
 try simp only [go_sem, reduceEqDiff, reduceAdd, reduceSub, reduceMul, reduceLeDiff, reduceLT, Nat.reduceBEq, reduceIte]
 refine AW.ret ?_
 obtain rfl := Option.some.inj h
 refine nz ?_
 exact .same _
/-! ### slices.Clone[isochrone/isochroneref01.Nat,int] -/
def slices_Clone_r01_Nat_int (K : Nat) (p0 : List Int) : Option (List Int) := (must (!(p0).isEmpty)).bind fun _ =>
 (appO 8 ([] : List Int) p0).bind fun l3 =>
 some l3
set_option maxHeartbeats 4000000 in
theorem slices_Clone_r01_Nat_int_own {K : Nat} {p0 : List Int} {r : (List Int)} (h : slices_Clone_r01_Nat_int K p0 = some r) : Co Tryz.prog 133 [.d (slD i64V p0)] (.msl 0 1 0 (r).length) (some ⟨1, (r.map i64V).map (·.map .d)⟩) := by
 refine Co.ofA mixed Tryz.func133 rfl Tryz.call133 Tryz.ntmps133 Tryz.results133 (by simp) datO_arr (by simp only [go_sem, reduceEqDiff, reduceAdd, reduceSub, reduceMul, reduceLeDiff, reduceLT, Nat.reduceBEq, reduceIte]; exact fun h => nomatch h) fun hfit => ?_
 unfold slices_Clone_r01_Nat_int at h
 refine AW.kp [] [0] ?_
 refine AW.op mixed ?_
 refine AW.kp [] [0] ?_
 refine AW.one ?_
 refine AW.one ?_
 refine AW.reg mixed (by kernel_rfl) ?_
 apply obindE h; intro _ hx1 h
 try simp only [go_sem, reduceEqDiff, reduceAdd, reduceSub, reduceMul, reduceLeDiff, reduceLT, Nat.reduceBEq, reduceIte, bopV_ne (P := Tryz.prog) (t := 62) (by kernel_rfl) (must_ne0 hx1)]
 refine AW.cut [] [(0, .d (slD i64V p0)), (4, .d (.val (.bool false)))] [] (by simp only [go_sem, reduceEqDiff, reduceAdd, reduceSub, reduceMul, reduceLeDiff, reduceLT, Nat.reduceBEq, reduceIte, bopV_ne (P := Tryz.prog) (t := 62) (by kernel_rfl) (must_ne0 hx1)]) ?_
 refine AW.ts false (fun hb => nomatch hb) (fun _ => ?_)
 refine AW.sk ?_
 refine AW.kp [] [0] ?_
 refine AW.op mixed ?_
 apply obindE h; intro l3 hx4 h
 refine appR (f := i64V) hx4 rfl (by simp only [go_sem, reduceEqDiff, reduceAdd, reduceSub, reduceMul, reduceLeDiff, reduceLT, Nat.reduceBEq, reduceIte]) (by simp only [go_sem, reduceEqDiff, reduceAdd, reduceSub, reduceMul, reduceLeDiff, reduceLT, Nat.reduceBEq, reduceIte]) (by simp only [go_sem, reduceEqDiff, reduceAdd, reduceSub, reduceMul, reduceLeDiff, reduceLT, Nat.reduceBEq, reduceIte]) ?_
 try simp only [go_sem, reduceEqDiff, reduceAdd, reduceSub, reduceMul, reduceLeDiff, reduceLT, Nat.reduceBEq, reduceIte]
 refine AW.ret ?_
 obtain rfl := Option.some.inj h
 refine nz ?_
 refine OwnRes.mk 2 (nz ?_) (by simp only [go_sem, reduceEqDiff, reduceAdd, reduceSub, reduceMul, reduceLeDiff, reduceLT, Nat.reduceBEq, reduceIte])
 exact .same _
/-! ### isochrone/isochroneref01.Sub -/
def r01_Sub (K : Nat) (p0 : List Int) (p1 : List Int) : Option (List Int) := (slices_Clone_r01_Nat_int K p0).bind fun r1 =>
 ((iter (S := Int × Int × (List Int)) (R := (List Int)) K (fun again (i3_0, i3_1, i3_2) =>
  if (decide (i3_1 < (r1.length : Int))) then
   ((
    (idx i3_2 i3_1).bind fun x10 =>
    ((
     if (decide (i3_1 < (p1.length : Int))) then
      (idx p1 i3_1).bind fun x15 =>
      some (IntKind.wrap .i64 ((IntKind.wrap .i64 (x10 - i3_0)) - x15))
     else
      some (IntKind.wrap .i64 (x10 - i3_0))) : Option Int).bind (fun v12_0 =>
    ((
     if (decide (v12_0 < (0 : Int))) then
      some ((1 : Int), IntKind.wrap .i64 (v12_0 + (10000 : Int)))
     else
      some ((0 : Int), v12_0)) : Option (Int × Int)).bind (fun (v17_0, v17_1) =>
    (idx i3_2 i3_1).bind fun x20 =>
    some (v17_0, (i3_2.set (i3_1.toNat) v17_1))))) : Option (Int × (List Int))).bind (fun (v8_0, v8_1) =>
   again (v8_0, IntKind.wrap .i64 (i3_1 + (1 : Int)), v8_1))
  else
   some i3_2) ((0 : Int), (0 : Int), r1)) : Option (List Int)).bind (fun e4_0 =>
 (r01_trim K e4_0).bind fun r22 =>
 some r22)
set_option maxHeartbeats 4000000 in
theorem r01_Sub_ok {K : Nat} {p0 : List Int} {p1 : List Int} {r : (List Int)} (h : r01_Sub K p0 p1 = some r) : Cn Tryz.prog 124 [.d (slD i64V p0), .d (slD i64V p1)] (.d (slD i64V r)) := by
 refine Cn.ofA mixed Tryz.func124 rfl Tryz.call124 Tryz.ntmps124 Tryz.results124 (by simp) (by simp only [go_sem, reduceEqDiff, reduceAdd, reduceSub, reduceMul, reduceLeDiff, reduceLT, Nat.reduceBEq, reduceIte]) fun hfit => ?_
 unfold r01_Sub at h
 refine AW.kp [] [0, 1] ?_
 refine AW.op mixed ?_
 refine AW.kp [] [0, 1] ?_
 refine AW.op mixed ?_
 apply obindE h; intro r1 hx2 h
 have hc := nx (slices_Clone_r01_Nat_int_own (h := hx2))
 refine callK_own hc (by simp only [go_sem, reduceEqDiff, reduceAdd, reduceSub, reduceMul, reduceLeDiff, reduceLT, Nat.reduceBEq, reduceIte]) ?_
 try simp only [go_sem, reduceEqDiff, reduceAdd, reduceSub, reduceMul, reduceLeDiff, reduceLT, Nat.reduceBEq, reduceIte]
 refine AW.cu [1] [(1, .d (slD i64V p1)), (5, .msl 0 1 0 (r1.length))] [some ⟨1, (r1.map i64V).map (·.map .d)⟩] ?_
 refine AW.op mixed ?_
 refine AW.cu [0] [(1, .d (slD i64V p1)), (5, .msl 0 1 0 (r1.length)), (6, .d (.val (.int .i64 (0 : Int))))] [some ⟨1, (r1.map i64V).map (·.map .d)⟩] ?_
 refine AW.one ?_
 refine AW.op mixed ?_
 refine AW.cu [0] [(1, .d (slD i64V p1)), (5, .msl 0 1 0 (r1.length)), (6, .d (.val (.int .i64 (0 : Int)))), (12, .d (.val (.int .i64 (r1.length : Int)))), (13, .d (.val (.int .i64 (0 : Int))))] [some ⟨1, (r1.map i64V).map (·.map .d)⟩] ?_
 refine obindE h fun oJ6 h hJ6 => ?_
 refine AW.join (S := (List Int)) (fun e4_0 => [(5, .msl 0 1 0 (e4_0.length))]) (fun e4_0 => [some ⟨1, (e4_0.map i64V).map (·.map .d)⟩]) (fun x => x = oJ6) ?_ ?_
 ·refine AW.block ?_
  refine AW.iter (S := Int × Int × (List Int)) (fun (i3_0, i3_1, i3_2) => [(1, .d (slD i64V p1)), (5, .msl 0 1 0 (i3_2.length)), (6, .d (.val (.int .i64 i3_0))), (12, .d (.val (.int .i64 (r1.length : Int)))), (13, .d (.val (.int .i64 i3_1)))]) (fun (i3_0, i3_1, i3_2) => [some ⟨1, (i3_2.map i64V).map (·.map .d)⟩]) [0] h (by simp only [go_sem, reduceEqDiff, reduceAdd, reduceSub, reduceMul, reduceLeDiff, reduceLT, Nat.reduceBEq, reduceIte]) ?_
  rintro again ⟨i3_0, i3_1, i3_2⟩ h
  try dsimp only at h
  refine AW.op mixed ?_
  refine AW.cu [0] [(1, .d (slD i64V p1)), (5, .msl 0 1 0 (i3_2.length)), (6, .d (.val (.int .i64 i3_0))), (12, .d (.val (.int .i64 (r1.length : Int)))), (13, .d (.val (.int .i64 i3_1))), (14, .d (.val (.bool (decide (i3_1 < (r1.length : Int))))))] [some ⟨1, (i3_2.map i64V).map (·.map .d)⟩] ?_
  refine AW.one ?_
  refine AW.ts (decide (i3_1 < (r1.length : Int))) (fun hb7 => ?_) (fun hb7 => ?_)
  ·have h := ifT hb7 h
   refine AW.sk ?_
   refine AW.cu [0] [(1, .d (slD i64V p1)), (5, .msl 0 1 0 (i3_2.length)), (6, .d (.val (.int .i64 i3_0))), (12, .d (.val (.int .i64 (r1.length : Int)))), (13, .d (.val (.int .i64 i3_1)))] [some ⟨1, (i3_2.map i64V).map (·.map .d)⟩] ?_
   refine AW.one ?_
   refine obindE h fun oJ9 h hJ9 => ?_
   refine AW.join (S := Int × (List Int)) (fun (v8_0, v8_1) => [(1, .d (slD i64V p1)), (5, .msl 0 1 0 (v8_1.length)), (6, .d (.val (.int .i64 v8_0))), (12, .d (.val (.int .i64 (r1.length : Int)))), (13, .d (.val (.int .i64 i3_1)))]) (fun (v8_0, v8_1) => [some ⟨1, (v8_1.map i64V).map (·.map .d)⟩]) (fun x => x = oJ9) ?_ ?_
   ·skip
    refine AW.block ?_
    refine AW.op mixed ?_
    refine AW.cu [0] [(1, .d (slD i64V p1)), (5, .msl 0 1 0 (i3_2.length)), (6, .d (.val (.int .i64 i3_0))), (7, .d (.val (.int .i64 i3_1))), (12, .d (.val (.int .i64 (r1.length : Int)))), (13, .d (.val (.int .i64 i3_1)))] [some ⟨1, (i3_2.map i64V).map (·.map .d)⟩] ?_
    refine AW.op mixed ?_
    apply obindE h; intro x10 hx11 h
    try simp only [go_sem, reduceEqDiff, reduceAdd, reduceSub, reduceMul, reduceLeDiff, reduceLT, Nat.reduceBEq, reduceIte, (idx_some hx11).1, idx_lt hx11, (idx_some hx11).2]
    refine AW.cut [0] [(1, .d (slD i64V p1)), (5, .msl 0 1 0 (i3_2.length)), (7, .d (.val (.int .i64 i3_1))), (8, .d (.val (.int .i64 (IntKind.wrap .i64 (x10 - i3_0))))), (12, .d (.val (.int .i64 (r1.length : Int)))), (13, .d (.val (.int .i64 i3_1)))] [some ⟨1, (i3_2.map i64V).map (·.map .d)⟩] (by simp only [go_sem, reduceEqDiff, reduceAdd, reduceSub, reduceMul, reduceLeDiff, reduceLT, Nat.reduceBEq, reduceIte, (idx_some hx11).1, idx_lt hx11, (idx_some hx11).2]) ?_
    refine AW.one ?_
    refine obindE h fun oJ13 h hJ13 => ?_
    refine AW.join (S := Int) (fun v12_0 => [(1, .d (slD i64V p1)), (5, .msl 0 1 0 (i3_2.length)), (7, .d (.val (.int .i64 i3_1))), (8, .d (.val (.int .i64 v12_0))), (12, .d (.val (.int .i64 (r1.length : Int)))), (13, .d (.val (.int .i64 i3_1)))]) (fun v12_0 => [some ⟨1, (i3_2.map i64V).map (·.map .d)⟩]) (fun x => x = oJ13) ?_ ?_
    ·skip
     refine AW.op mixed ?_
     refine AW.cu [0] [(1, .d (slD i64V p1)), (5, .msl 0 1 0 (i3_2.length)), (7, .d (.val (.int .i64 i3_1))), (8, .d (.val (.int .i64 (IntKind.wrap .i64 (x10 - i3_0))))), (12, .d (.val (.int .i64 (r1.length : Int)))), (13, .d (.val (.int .i64 i3_1))), (25, .d (.val (.bool (decide (i3_1 < (p1.length : Int))))))] [some ⟨1, (i3_2.map i64V).map (·.map .d)⟩] ?_
     refine AW.ts (decide (i3_1 < (p1.length : Int))) (fun hb14 => ?_) (fun hb14 => ?_)
     ·have h := ifT hb14 h
      refine AW.reg mixed (by kernel_rfl) ?_
      apply obindE h; intro x15 hx16 h
      try simp only [go_sem, reduceEqDiff, reduceAdd, reduceSub, reduceMul, reduceLeDiff, reduceLT, Nat.reduceBEq, reduceIte, (idx_some hx16).1, (idx_some hx16).2]
      refine JoinQ.mk (IntKind.wrap .i64 ((IntKind.wrap .i64 (x10 - i3_0)) - x15)) [0] (Option.some.inj h) (by simp only [go_sem, reduceEqDiff, reduceAdd, reduceSub, reduceMul, reduceLeDiff, reduceLT, Nat.reduceBEq, reduceIte, (idx_some hx16).1, (idx_some hx16).2])
     have h := ifF hb14 h
     refine AW.sk ?_
     exact JoinQ.ar (IntKind.wrap .i64 (x10 - i3_0)) [0] (Option.some.inj h)
    rintro v12_0 rfl
    have h := hJ13
    try dsimp only [Out.fin] at h
    refine nz ?_
    refine AW.op mixed ?_
    refine AW.cu [0] [(1, .d (slD i64V p1)), (5, .msl 0 1 0 (i3_2.length)), (6, .d (.val (.int .i64 (0 : Int)))), (7, .d (.val (.int .i64 i3_1))), (8, .d (.val (.int .i64 v12_0))), (12, .d (.val (.int .i64 (r1.length : Int)))), (13, .d (.val (.int .i64 i3_1)))] [some ⟨1, (i3_2.map i64V).map (·.map .d)⟩] ?_
    refine AW.one ?_
    refine obindE h fun oJ18 h hJ18 => ?_
    refine AW.join (S := Int × Int) (fun (v17_0, v17_1) => [(1, .d (slD i64V p1)), (5, .msl 0 1 0 (i3_2.length)), (6, .d (.val (.int .i64 v17_0))), (7, .d (.val (.int .i64 i3_1))), (8, .d (.val (.int .i64 v17_1))), (12, .d (.val (.int .i64 (r1.length : Int)))), (13, .d (.val (.int .i64 i3_1)))]) (fun (v17_0, v17_1) => [some ⟨1, (i3_2.map i64V).map (·.map .d)⟩]) (fun x => x = oJ18) ?_ ?_
    ·skip
     refine AW.op mixed ?_
     refine AW.cu [0] [(1, .d (slD i64V p1)), (5, .msl 0 1 0 (i3_2.length)), (6, .d (.val (.int .i64 (0 : Int)))), (7, .d (.val (.int .i64 i3_1))), (8, .d (.val (.int .i64 v12_0))), (12, .d (.val (.int .i64 (r1.length : Int)))), (13, .d (.val (.int .i64 i3_1))), (33, .d (.val (.bool (decide (v12_0 < (0 : Int))))))] [some ⟨1, (i3_2.map i64V).map (·.map .d)⟩] ?_
     refine AW.ts (decide (v12_0 < (0 : Int))) (fun hb19 => ?_) (fun hb19 => ?_)
     ·have h := ifT hb19 h
      refine AW.op mixed ?_
      refine AW.cu [0] [(1, .d (slD i64V p1)), (5, .msl 0 1 0 (i3_2.length)), (7, .d (.val (.int .i64 i3_1))), (8, .d (.val (.int .i64 (IntKind.wrap .i64 (v12_0 + (10000 : Int)))))), (12, .d (.val (.int .i64 (r1.length : Int)))), (13, .d (.val (.int .i64 i3_1)))] [some ⟨1, (i3_2.map i64V).map (·.map .d)⟩] ?_
      refine AW.rg mixed ?_
      exact JoinQ.ar ((1 : Int), IntKind.wrap .i64 (v12_0 + (10000 : Int))) [0] (Option.some.inj h)
     have h := ifF hb19 h
     refine AW.sk ?_
     exact JoinQ.ar ((0 : Int), v12_0) [0] (Option.some.inj h)
    rintro ⟨v17_0, v17_1⟩ rfl
    have h := hJ18
    try dsimp only [Out.fin] at h
    refine nz ?_
    refine AW.rg mixed ?_
    apply obindE h; intro x20 hx21 h
    try simp only [go_sem, reduceEqDiff, reduceAdd, reduceSub, reduceMul, reduceLeDiff, reduceLT, Nat.reduceBEq, reduceIte, (idx_some hx21).1, idx_lt hx21, (idx_some hx21).2, List.length_set, (rows_set (l := i3_2) (f := i64V) (i := i3_1.toNat) (v' := v17_1) (row := [.d (.val (.int .i64 v17_1))]) (by simp only [go_sem, reduceEqDiff, reduceAdd, reduceSub, reduceMul, reduceLeDiff, reduceLT, Nat.reduceBEq, reduceIte]))]
    refine JoinQ.mk (v17_0, (i3_2.set (i3_1.toNat) v17_1)) [0] (Option.some.inj h) (by simp only [go_sem, reduceEqDiff, reduceAdd, reduceSub, reduceMul, reduceLeDiff, reduceLT, Nat.reduceBEq, reduceIte, (idx_some hx21).1, idx_lt hx21, (idx_some hx21).2, List.length_set, (rows_set (l := i3_2) (f := i64V) (i := i3_1.toNat) (v' := v17_1) (row := [.d (.val (.int .i64 v17_1))]) (by simp only [go_sem, reduceEqDiff, reduceAdd, reduceSub, reduceMul, reduceLeDiff, reduceLT, Nat.reduceBEq, reduceIte]))])
   rintro ⟨v8_0, v8_1⟩ rfl
   have h := hJ9
   try dsimp only [Out.fin] at h
   refine nz ?_
   refine AW.rg mixed ?_
   exact NextQ.ar (v8_0, IntKind.wrap .i64 (i3_1 + (1 : Int)), v8_1) [0] h
  have h := ifF hb7 h
  refine AW.ex ?_
  exact JoinQ.ar i3_2 [0] (Option.some.inj h)
 rintro e4_0 rfl
 have h := hJ6
 try dsimp only [Out.fin] at h
 refine nz ?_
 refine AW.cu [0] [(5, .msl 0 1 0 (e4_0.length))] [some ⟨1, (e4_0.map i64V).map (·.map .d)⟩] ?_
 refine AW.op mixed ?_
 apply obindE h; intro r22 hx23 h
 have hc := nx (r01_trim_ok (h := hx23))
 refine callK_seal [0] hc ⟨sealArr (by simp only [go_sem, reduceEqDiff, reduceAdd, reduceSub, reduceMul, reduceLeDiff, reduceLT, Nat.reduceBEq, reduceIte]), trivial⟩ (by simp only [go_sem, reduceEqDiff, reduceAdd, reduceSub, reduceMul, reduceLeDiff, reduceLT, Nat.reduceBEq, reduceIte]) (by simp only [go_sem, reduceEqDiff, reduceAdd, reduceSub, reduceMul, reduceLeDiff, reduceLT, Nat.reduceBEq, reduceIte]) ?_
 try simp only [go_sem, reduceEqDiff, reduceAdd, reduceSub, reduceMul, reduceLeDiff, reduceLT, Nat.reduceBEq, reduceIte]
 refine AW.ret ?_
 obtain rfl := Option.some.inj h
 refine nz ?_
 exact .same _
/-! ### isochrone/isochroneref01.digit -/
def r01_digit (K : Nat) (p0 : List Int) (p1 : List Int) : Option Int := ((iter (S := Int × Int) (R := Int) K (fun again (i1_0, i1_1) =>
  if (decide ((if (IntKind.wrap .i64 ((p1.length : Int) - (2 : Int))) > (0 : Int) then (IntKind.wrap .i64 ((p1.length : Int) - (2 : Int))) else (0 : Int)) ≤ i1_1)) then
   ((
    if (decide (i1_1 < (p0.length : Int))) then
     (idx p0 i1_1).bind fun x9 =>
     some (IntKind.wrap .i64 ((IntKind.wrap .i64 (i1_0 * (10000 : Int))) + x9))
    else
     some (IntKind.wrap .i64 (i1_0 * (10000 : Int)))) : Option Int).bind (fun v6_0 =>
   again (v6_0, IntKind.wrap .i64 (i1_1 - (1 : Int))))
  else
   some i1_0) ((0 : Int), (p1.length : Int))) : Option Int).bind (fun e2_0 =>
 ((iter (S := Int × Int) (R := Int) K (fun again (i11_0, i11_1) =>
  if (decide ((if (IntKind.wrap .i64 ((p1.length : Int) - (2 : Int))) > (0 : Int) then (IntKind.wrap .i64 ((p1.length : Int) - (2 : Int))) else (0 : Int)) ≤ i11_1)) then
   (idx p1 i11_1).bind fun x16 =>
   again (IntKind.wrap .i64 ((IntKind.wrap .i64 (i11_0 * (10000 : Int))) + x16), IntKind.wrap .i64 (i11_1 - (1 : Int)))
  else
   some i11_0) ((0 : Int), IntKind.wrap .i64 ((p1.length : Int) - (1 : Int)))) : Option Int).bind (fun e12_0 =>
 ((
  if ((p1.length : Int) == (1 : Int)) then
   (idx p1 (0 : Int)).bind fun x21 =>
   some x21
  else
   some e12_0) : Option Int).bind (fun v18_0 =>
 (must (v18_0 != 0)).bind fun z23 =>
 ((iter (S := Int) (R := Int) K (fun again i25_0 =>
  (r01_Small K p1 i25_0 (0 : Int)).bind fun r29 =>
  (r01_Cmp K r29 p0).bind fun r31 =>
  if (decide ((0 : Int) < r31)) then
   again (IntKind.wrap .i64 (i25_0 - (1 : Int)))
  else
   some i25_0) (if (9999 : Int) < (IntKind.wrap .i64 (e2_0.tdiv v18_0)) then (9999 : Int) else (IntKind.wrap .i64 (e2_0.tdiv v18_0)))) : Option Int).bind (fun e26_0 =>
 ((iter (S := Int) (R := Int) K (fun again i34_0 =>
  ((
   ((
    if (decide ((IntKind.wrap .i64 (i34_0 + (1 : Int))) < (10000 : Int))) then
     (r01_Small K p1 (IntKind.wrap .i64 (i34_0 + (1 : Int))) (0 : Int)).bind fun r43 =>
     (r01_Cmp K r43 p0).bind fun r45 =>
     some (decide (r45 ≤ (0 : Int)))
    else
     some false) : Option Bool).bind (fun v40_0 =>
   if v40_0 then
    some (.go ())
   else
    outM (
     some i34_0))) : Option (Out Unit _)).bind (Out.fin fun _ =>
  again (IntKind.wrap .i64 (i34_0 + (1 : Int))))) e26_0) : Option Int).bind (fun e35_0 =>
 some e35_0)))))
set_option maxHeartbeats 4000000 in
theorem r01_digit_ok {K : Nat} {p0 : List Int} {p1 : List Int} {r : Int} (h : r01_digit K p0 p1 = some r) : Cn Tryz.prog 132 [.d (slD i64V p0), .d (slD i64V p1)] (.d (.val (.int .i64 r))) := by
 refine Cn.oz Tryz.func132 Tryz.call132 Tryz.ntmps132 Tryz.results132 fun hfit => ?_
 unfold r01_digit at h
 refine AW.kr [] [0, 1] ?_
 refine AW.kr [] [0, 1] ?_
 refine AW.kr [] [0, 1, 5] ?_
 refine AW.ks [] [0, 1, 5, 6, 7] ?_
 refine AW.one ?_
 refine AW.ro ?_
 refine AW.ks [] [0, 1, 5, 6, 7, 8] ?_
 refine AW.lm h (fun e2_0 => [(0, vL i64V p0), (1, vL i64V p1), (5, vI (p1.length : Int)), (6, vI e2_0), (7, vI (0 : Int))]) (fun e2_0 => []) (fun (i1_0, i1_1) => [(0, vL i64V p0), (1, vL i64V p1), (5, vI (p1.length : Int)), (6, vI i1_0), (7, vI (0 : Int)), (8, vI i1_1)]) (fun (i1_0, i1_1) => []) [] (fun oJ4 again ⟨i1_0, i1_1⟩ h => ?_) fun e2_0 h => ?_
 ·try dsimp only at h
  refine AW.one ?_
  refine AW.ro ?_
  refine AW.ks [] [0, 1, 5, 6, 7, 8, 18] ?_
  refine AW.tt h (fun hb5 h => ?_) fun hb5 h => ?_
  ·refine AW.sk ?_
   refine AW.ks [] [0, 1, 5, 6, 7, 8] ?_
   refine AW.jn h (fun v6_0 => [(0, vL i64V p0), (1, vL i64V p1), (5, vI (p1.length : Int)), (6, vI v6_0), (7, vI (0 : Int)), (8, vI i1_1)]) (fun v6_0 => []) (fun oJ7 h => ?_) fun v6_0 h => ?_
   ·refine AW.block ?_
    refine AW.ro ?_
    refine AW.kr [] [0, 1, 5, 6, 7, 8] ?_
    refine AW.ks [] [0, 1, 5, 6, 7, 8, 26] ?_
    refine AW.tk h (fun hb8 h => ?_) fun hb8 h => ?_
    ·refine AW.rp ?_
     refine bx h fun x9 h0 h1 h => ?_
     exact ja [] h
    exact ja [] h
   refine AW.rp ?_
   exact na [] h
  refine AW.ex ?_
  exact ja [] h
 refine AW.ks [] [0, 1, 5, 6, 7] ?_
 refine AW.one ?_
 refine AW.ro ?_
 refine AW.ks [] [0, 1, 5, 6, 7, 9] ?_
 refine AW.lm h (fun e12_0 => [(0, vL i64V p0), (1, vL i64V p1), (5, vI (p1.length : Int)), (6, vI e2_0), (7, vI e12_0)]) (fun e12_0 => []) (fun (i11_0, i11_1) => [(0, vL i64V p0), (1, vL i64V p1), (5, vI (p1.length : Int)), (6, vI e2_0), (7, vI i11_0), (9, vI i11_1)]) (fun (i11_0, i11_1) => []) [] (fun oJ14 again ⟨i11_0, i11_1⟩ h => ?_) fun e12_0 h => ?_
 ·try dsimp only at h
  refine AW.one ?_
  refine AW.ro ?_
  refine AW.ks [] [0, 1, 5, 6, 7, 9, 39] ?_
  refine AW.tt h (fun hb15 h => ?_) fun hb15 h => ?_
  ·refine AW.sk ?_
   refine AW.ks [] [0, 1, 5, 6, 7, 9] ?_
   refine AW.one ?_
   refine AW.block ?_
   refine AW.rp ?_
   refine bx h fun x16 h0 h1 h => ?_
   refine AW.ks [] [0, 1, 5, 6, 7, 9] ?_
   refine AW.rp ?_
   exact na [] h
  refine AW.ex ?_
  exact ja [] h
 refine AW.ks [] [0, 1, 5, 6, 7] ?_
 refine AW.jn h (fun v18_0 => [(0, vL i64V p0), (1, vL i64V p1), (6, vI e2_0), (7, vI v18_0)]) (fun v18_0 => []) (fun oJ19 h => ?_) fun v18_0 h => ?_
 ·refine AW.ro ?_
  refine AW.ks [] [0, 1, 6, 7, 50] ?_
  refine AW.tk h (fun hb20 h => ?_) fun hb20 h => ?_
  ·refine AW.rp ?_
   refine bx h fun x21 h0 h1 h => ?_
   exact ja [] h
  exact ja [] h
 refine AW.ro ?_
 apply bE h; intro _ hx24 h; have hx24 := mq hx24; refine ns ?_
 refine AW.ks [] [0, 1, 10] ?_
 refine AW.ln h (fun e26_0 => [(0, vL i64V p0), (1, vL i64V p1), (10, vI e26_0)]) (fun e26_0 => []) (fun i25_0 => [(0, vL i64V p0), (1, vL i64V p1), (10, vI i25_0)]) (fun i25_0 => []) [] (fun oJ28 again i25_0 h => ?_) fun e26_0 h => ?_
 ·refine AW.one ?_
  refine AW.ro ?_
  refine cm h r01_Small_ok fun r29 hx30 h => ?_
  refine cm h r01_Cmp_ok fun r31 hx32 h => ?_
  refine AW.ks [] [0, 1, 10, 63] ?_
  refine AW.tt h (fun hb33 h => ?_) fun hb33 h => ?_
  ·refine AW.sk ?_
   refine AW.ks [] [0, 1, 10] ?_
   refine AW.block ?_
   refine AW.rp ?_
   exact na [] h
  refine AW.ex ?_
  exact ja [] h
 refine AW.ks [] [0, 1, 10] ?_
 refine AW.ln h (fun e35_0 => [(10, vI e35_0)]) (fun e35_0 => []) (fun i34_0 => [(0, vL i64V p0), (1, vL i64V p1), (10, vI i34_0)]) (fun i34_0 => []) [] (fun oJ37 again i34_0 h => ?_) fun e35_0 h => ?_
 ·refine AW.jo h (fun _ => [(0, vL i64V p0), (1, vL i64V p1), (10, vI i34_0)]) (fun _ => []) (fun oJ39 h hJ39 => ?_) fun ⟨⟩ h => ?_
  ·refine AW.jn h (fun v40_0 => [(0, vL i64V p0), (1, vL i64V p1), (10, vI i34_0), (77, vB v40_0)]) (fun v40_0 => []) (fun oJ41 h => ?_) fun v40_0 h => ?_
   ·refine AW.rp ?_
    refine sK h (fun hb42 h => ?_) fun hb42 h => ?_
    ·refine cm h r01_Small_ok fun r43 hx44 h => ?_
     refine cm h r01_Cmp_ok fun r45 hx46 h => ?_
     exact ja [] h
    exact ja [] h
   refine AW.tt h (fun hb47 h => ?_) fun hb47 h => ?_
   ·refine AW.sk ?_
    exact jo [] h
   refine AW.ex ?_
   have h := up h hJ39
   exact ja [] h
  refine AW.block ?_
  refine AW.rp ?_
  exact na [] h
 refine AW.kr [] [10] ?_
 refine AW.ret ?_
 cases h; refine nz ?_; exact .same _
/-! ### isochrone/isochroneref01.little -/
def r01_little (K : Nat) (p0 : List Int) : Option (Int × Bool) := if (decide ((4 : Int) < (p0.length : Int))) then
  some ((0 : Int), false)
 else
  ((iter (S := Int × Int) (R := Int) K (fun again (i2_0, i2_1) =>
   if (decide ((0 : Int) ≤ i2_1)) then
    (idx p0 i2_1).bind fun x7 =>
    again (IntKind.wrap .i64 ((IntKind.wrap .i64 (i2_0 * (10000 : Int))) + x7), IntKind.wrap .i64 (i2_1 - (1 : Int)))
   else
    some i2_0) ((0 : Int), IntKind.wrap .i64 ((p0.length : Int) - (1 : Int)))) : Option Int).bind (fun e3_0 =>
  some (e3_0, true))
set_option maxHeartbeats 4000000 in
theorem r01_little_ok {K : Nat} {p0 : List Int} {r : Int × Bool} (h : r01_little K p0 = some r) : Cn Tryz.prog 118 [.d (slD i64V p0)] (.tup [.d (.val (.int .i64 r.1)), .d (.val (.bool r.2))]) := by
 refine Cn.oz Tryz.func118 Tryz.call118 Tryz.ntmps118 Tryz.results118 fun hfit => ?_
 unfold r01_little at h
 refine AW.kr [] [0] ?_
 refine AW.ks [] [0] ?_
 refine AW.one ?_
 refine AW.ro ?_
 refine AW.ks [] [0, 8] ?_
 refine AW.tk h (fun hb1 h => ?_) fun hb1 h => ?_
 ·refine AW.ro ?_
  refine AW.ret ?_
  cases h; refine nz ?_; exact .same _
 refine AW.kr [] [0] ?_
 refine AW.ks [] [0, 4] ?_
 refine AW.one ?_
 refine AW.ro ?_
 refine AW.ks [] [0, 4, 5] ?_
 refine AW.lm h (fun e3_0 => [(4, vI e3_0)]) (fun e3_0 => []) (fun (i2_0, i2_1) => [(0, vL i64V p0), (4, vI i2_0), (5, vI i2_1)]) (fun (i2_0, i2_1) => []) [] (fun oJ5 again ⟨i2_0, i2_1⟩ h => ?_) fun e3_0 h => ?_
 ·try dsimp only at h
  refine AW.one ?_
  refine AW.ro ?_
  refine AW.ks [] [0, 4, 5, 13] ?_
  refine AW.tt h (fun hb6 h => ?_) fun hb6 h => ?_
  ·refine AW.sk ?_
   refine AW.ks [] [0, 4, 5] ?_
   refine AW.one ?_
   refine AW.block ?_
   refine AW.rp ?_
   refine bx h fun x7 h0 h1 h => ?_
   refine AW.ks [] [0, 4, 5] ?_
   refine AW.rp ?_
   exact na [] h
  refine AW.ex ?_
  exact ja [] h
 refine AW.kr [] [4] ?_
 refine AW.ret ?_
 cases h; refine nz ?_; exact .same _
/-! ### isochrone/isochroneref01.DivMod -/
def r01_DivMod (K : Nat) (p0 : List Int) (p1 : List Int) : Option ((List Int) × (List Int)) := (r01_Cmp K p0 p1).bind fun r1 =>
 if (decide (r1 < (0 : Int))) then
  some (([] : List Int), p0)
 else
  (r01_little K p0).bind fun r4 =>
  if r4.2 then
   (r01_little K p1).bind fun r7 =>
   (must (r7.1 != 0)).bind fun z9 =>
   (r01_Int K (IntKind.wrap .i64 (r4.1.tdiv r7.1))).bind fun r11 =>
   (must (r7.1 != 0)).bind fun z13 =>
   (r01_Int K (r4.1.tmod r7.1)).bind fun r15 =>
   some (r11, r15)
  else
   if ((p1.length : Int) == (1 : Int)) then
    (idx p1 (0 : Int)).bind fun x18 =>
    (r01_Split K p0 x18).bind fun r20 =>
    (r01_Int K r20.2).bind fun r22 =>
    some (r20.1, r22)
   else
    (makO 8 (p0.length : Int) (0 : Int)).bind fun l24 =>
    ((iter (S := (List Int) × Int × (List Int)) (R := ((List Int) × (List Int))) K (fun again (i30_0, i30_1, i30_2) =>
     if (decide ((0 : Int) ≤ i30_1)) then
      ((
       (idx p0 i30_1).bind fun x37 =>
       (r01_Small K i30_0 (10000 : Int) x37).bind fun r39 =>
       (r01_Cmp K r39 p1).bind fun r41 =>
       if (decide (r41 < (0 : Int))) then
        some (r39, i30_2)
       else
        (r01_digit K r39 p1).bind fun r44 =>
        (idx i30_2 i30_1).bind fun x46 =>
        (idx (i30_2.set (i30_1.toNat) r44) i30_1).bind fun x48 =>
        (r01_Small K p1 x48 (0 : Int)).bind fun r50 =>
        (r01_Sub K r39 r50).bind fun r52 =>
        some (r52, (i30_2.set (i30_1.toNat) r44))) : Option ((List Int) × (List Int))).bind (fun (v35_0, v35_1) =>
      again (v35_0, IntKind.wrap .i64 (i30_1 - (1 : Int)), v35_1))
     else
      some (i30_0, i30_2)) (([] : List Int), IntKind.wrap .i64 ((p0.length : Int) - (1 : Int)), l24)) : Option ((List Int) × (List Int))).bind (fun (e31_0, e31_1) =>
    (r01_trim K e31_1).bind fun r54 =>
    some (r54, e31_0))
set_option maxHeartbeats 4000000 in
theorem r01_DivMod_ok {K : Nat} {p0 : List Int} {p1 : List Int} {r : (List Int) × (List Int)} (h : r01_DivMod K p0 p1 = some r) : Cn Tryz.prog 119 [.d (slD i64V p0), .d (slD i64V p1)] (.tup [.d (slD i64V r.1), .d (slD i64V r.2)]) := by
 refine Cn.ofA mixed Tryz.func119 rfl Tryz.call119 Tryz.ntmps119 Tryz.results119 (by simp) (by simp only [go_sem, reduceEqDiff, reduceAdd, reduceSub, reduceMul, reduceLeDiff, reduceLT, Nat.reduceBEq, reduceIte]) fun hfit => ?_
 unfold r01_DivMod at h
 refine AW.kp [] [0, 1] ?_
 refine AW.op mixed ?_
 refine AW.kp [] [0, 1] ?_
 refine AW.one ?_
 refine AW.op mixed ?_
 apply obindE h; intro r1 hx2 h
 have hc := nx (r01_Cmp_ok (h := hx2))
 refine callP hc ?_
 refine AW.kp [] [0, 1, 18] ?_
 refine AW.ts (decide (r1 < (0 : Int))) (fun hb3 => ?_) (fun hb3 => ?_)
 ·have h := ifT hb3 h
  refine AW.op mixed ?_
  refine AW.ret ?_
  obtain rfl := Option.some.inj h
  refine nz ?_
  exact .tupL ⟨sealEmp (by simp only [go_sem, reduceEqDiff, reduceAdd, reduceSub, reduceMul, reduceLeDiff, reduceLT, Nat.reduceBEq, reduceIte]), .same _, trivial⟩
 have h := ifF hb3 h
 refine AW.sk ?_
 refine AW.kp [] [0, 1] ?_
 refine AW.one ?_
 refine AW.op mixed ?_
 apply obindE h; intro r4 hx5 h
 have hc := nx (r01_little_ok (h := hx5))
 refine callP hc ?_
 refine AW.kp [] [0, 1, 6, 7] ?_
 refine AW.op mixed ?_
 refine AW.kp [] [0, 1, 6, 26] ?_
 refine AW.ts r4.2 (fun hb6 => ?_) (fun hb6 => ?_)
 ·have h := ifT hb6 h
  refine AW.op mixed ?_
  apply obindE h; intro r7 hx8 h
  have hc := nx (r01_little_ok (h := hx8))
  refine callP hc ?_
  refine AW.kp [] [6, 8] ?_
  refine AW.one ?_
  refine AW.reg mixed (by kernel_rfl) ?_
  apply obindE h; intro z9 hx10 h
  try simp only [go_sem, reduceEqDiff, reduceAdd, reduceSub, reduceMul, reduceLeDiff, reduceLT, Nat.reduceBEq, reduceIte, bop_quo (P := Tryz.prog) (must_ne hx10)]
  apply obindE h; intro r11 hx12 h
  have hc := nx (r01_Int_ok (h := hx12))
  refine pcallK_intro hc (by simp only [go_sem, reduceEqDiff, reduceAdd, reduceSub, reduceMul, reduceLeDiff, reduceLT, Nat.reduceBEq, reduceIte]) ?_
  apply obindE h; intro z13 hx14 h
  try simp only [go_sem, reduceEqDiff, reduceAdd, reduceSub, reduceMul, reduceLeDiff, reduceLT, Nat.reduceBEq, reduceIte, bop_quo (P := Tryz.prog) (must_ne hx10), bop_rem (P := Tryz.prog) (must_ne hx14)]
  apply obindE h; intro r15 hx16 h
  have hc := nx (r01_Int_ok (h := hx16))
  refine pcallK_intro hc (by simp only [go_sem, reduceEqDiff, reduceAdd, reduceSub, reduceMul, reduceLeDiff, reduceLT, Nat.reduceBEq, reduceIte]) ?_
  try simp only [go_sem, reduceEqDiff, reduceAdd, reduceSub, reduceMul, reduceLeDiff, reduceLT, Nat.reduceBEq, reduceIte, bop_quo (P := Tryz.prog) (must_ne hx10), bop_rem (P := Tryz.prog) (must_ne hx14)]
  refine AW.ret ?_
  obtain rfl := Option.some.inj h
  refine nz ?_
  exact .same _
 have h := ifF hb6 h
 refine AW.sk ?_
 refine AW.kp [] [0, 1] ?_
 refine AW.one ?_
 refine AW.op mixed ?_
 refine AW.kp [] [0, 1, 42] ?_
 refine AW.ts ((p1.length : Int) == (1 : Int)) (fun hb17 => ?_) (fun hb17 => ?_)
 ·have h := ifT hb17 h
  refine AW.one ?_
  refine AW.reg mixed (by kernel_rfl) ?_
  apply obindE h; intro x18 hx19 h
  try simp only [go_sem, reduceEqDiff, reduceAdd, reduceSub, reduceMul, reduceLeDiff, reduceLT, Nat.reduceBEq, reduceIte, (idx_some hx19).1, (idx_some hx19).2]
  apply obindE h; intro r20 hx21 h
  have hc := nx (r01_Split_ok (h := hx21))
  refine callK_pure hc (by simp only [go_sem, reduceEqDiff, reduceAdd, reduceSub, reduceMul, reduceLeDiff, reduceLT, Nat.reduceBEq, reduceIte]) ?_
  try simp only [go_sem, reduceEqDiff, reduceAdd, reduceSub, reduceMul, reduceLeDiff, reduceLT, Nat.reduceBEq, reduceIte, (idx_some hx19).1, (idx_some hx19).2]
  refine AW.cut [] [(10, .d (slD i64V r20.1)), (11, .d (.val (.int .i64 r20.2)))] [] (by simp only [go_sem, reduceEqDiff, reduceAdd, reduceSub, reduceMul, reduceLeDiff, reduceLT, Nat.reduceBEq, reduceIte, (idx_some hx19).1, (idx_some hx19).2]) ?_
  refine AW.op mixed ?_
  apply obindE h; intro r22 hx23 h
  have hc := nx (r01_Int_ok (h := hx23))
  refine callP hc ?_
  refine AW.ret ?_
  obtain rfl := Option.some.inj h
  refine nz ?_
  exact .same _
 have h := ifF hb17 h
 refine AW.sk ?_
 refine AW.kp [] [0, 1] ?_
 refine AW.op mixed ?_
 apply obindE h; intro l24 hx25 h
 refine makG (f := i64V) hx25 (nz ?_) ?_
 ·exact ⟨.same _, trivial⟩
 try simp only [go_sem, reduceEqDiff, reduceAdd, reduceSub, reduceMul, reduceLeDiff, reduceLT, Nat.reduceBEq, reduceIte]
 refine AW.cu [2] [(0, .d (slD i64V p0)), (1, .d (slD i64V p1)), (12, .msl 0 1 0 (l24.length))] [some ⟨1, (l24.map i64V).map (·.map .d)⟩] ?_
 refine AW.op mixed ?_
 refine AW.cu [0, 1] [(0, .d (slD i64V p0)), (1, .d (slD i64V p1)), (12, .msl 0 1 0 (l24.length)), (13, .msl 1 1 0 (([] : List Int).length))] [some ⟨1, (l24.map i64V).map (·.map .d)⟩, some ⟨1, (([] : List Int).map i64V).map (·.map .d)⟩] ?_
 refine AW.one ?_
 refine AW.op mixed ?_
 refine AW.cu [0, 1] [(0, .d (slD i64V p0)), (1, .d (slD i64V p1)), (12, .msl 0 1 0 (l24.length)), (13, .msl 1 1 0 (([] : List Int).length)), (14, .d (.val (.int .i64 (IntKind.wrap .i64 ((p0.length : Int) - (1 : Int))))))] [some ⟨1, (l24.map i64V).map (·.map .d)⟩, some ⟨1, (([] : List Int).map i64V).map (·.map .d)⟩] ?_
 refine AW.cutS [0] [1] [(13, .d (slD i64V ([] : List Int)))] [] [(0, .d (slD i64V p0)), (1, .d (slD i64V p1)), (12, .msl 0 1 0 (l24.length)), (13, .d (slD i64V ([] : List Int))), (14, .d (.val (.int .i64 (IntKind.wrap .i64 ((p0.length : Int) - (1 : Int))))))] [some ⟨1, (l24.map i64V).map (·.map .d)⟩] (by simp only [go_sem, reduceEqDiff, reduceAdd, reduceSub, reduceMul, reduceLeDiff, reduceLT, Nat.reduceBEq, reduceIte, sealL_cons, sealL_nil]; exact sealEmp (by simp only [go_sem, reduceEqDiff, reduceAdd, reduceSub, reduceMul, reduceLeDiff, reduceLT, Nat.reduceBEq, reduceIte])) (by simp only [go_sem, reduceEqDiff, reduceAdd, reduceSub, reduceMul, reduceLeDiff, reduceLT, Nat.reduceBEq, reduceIte, sealH_cons, sealH_nil]) (by simp only [go_sem, reduceEqDiff, reduceAdd, reduceSub, reduceMul, reduceLeDiff, reduceLT, Nat.reduceBEq, reduceIte]) ?_
 refine obindE h fun oJ33 h hJ33 => ?_
 refine AW.join (S := (List Int) × (List Int)) (fun (e31_0, e31_1) => [(12, .msl 0 1 0 (e31_1.length)), (13, .d (slD i64V e31_0))]) (fun (e31_0, e31_1) => [some ⟨1, (e31_1.map i64V).map (·.map .d)⟩]) (fun x => x = oJ33) ?_ ?_
 ·refine AW.block ?_
  refine AW.iter (S := (List Int) × Int × (List Int)) (fun (i30_0, i30_1, i30_2) => [(0, .d (slD i64V p0)), (1, .d (slD i64V p1)), (12, .msl 0 1 0 (i30_2.length)), (13, .d (slD i64V i30_0)), (14, .d (.val (.int .i64 i30_1)))]) (fun (i30_0, i30_1, i30_2) => [some ⟨1, (i30_2.map i64V).map (·.map .d)⟩]) [0] h (by simp only [go_sem, reduceEqDiff, reduceAdd, reduceSub, reduceMul, reduceLeDiff, reduceLT, Nat.reduceBEq, reduceIte]) ?_
  rintro again ⟨i30_0, i30_1, i30_2⟩ h
  try dsimp only at h
  refine AW.one ?_
  refine AW.op mixed ?_
  refine AW.cu [0] [(0, .d (slD i64V p0)), (1, .d (slD i64V p1)), (12, .msl 0 1 0 (i30_2.length)), (13, .d (slD i64V i30_0)), (14, .d (.val (.int .i64 i30_1))), (62, .d (.val (.bool (decide ((0 : Int) ≤ i30_1)))))] [some ⟨1, (i30_2.map i64V).map (·.map .d)⟩] ?_
  refine AW.ts (decide ((0 : Int) ≤ i30_1)) (fun hb34 => ?_) (fun hb34 => ?_)
  ·have h := ifT hb34 h
   refine AW.sk ?_
   refine AW.cu [0] [(0, .d (slD i64V p0)), (1, .d (slD i64V p1)), (12, .msl 0 1 0 (i30_2.length)), (13, .d (slD i64V i30_0)), (14, .d (.val (.int .i64 i30_1)))] [some ⟨1, (i30_2.map i64V).map (·.map .d)⟩] ?_
   refine AW.one ?_
   refine obindE h fun oJ36 h hJ36 => ?_
   refine AW.join (S := (List Int) × (List Int)) (fun (v35_0, v35_1) => [(0, .d (slD i64V p0)), (1, .d (slD i64V p1)), (12, .msl 0 1 0 (v35_1.length)), (13, .d (slD i64V v35_0)), (14, .d (.val (.int .i64 i30_1)))]) (fun (v35_0, v35_1) => [some ⟨1, (v35_1.map i64V).map (·.map .d)⟩]) (fun x => x = oJ36) ?_ ?_
   ·skip
    refine AW.block ?_
    refine AW.one ?_
    refine AW.reg mixed (by kernel_rfl) ?_
    apply obindE h; intro x37 hx38 h
    try simp only [go_sem, reduceEqDiff, reduceAdd, reduceSub, reduceMul, reduceLeDiff, reduceLT, Nat.reduceBEq, reduceIte, (idx_some hx38).1, (idx_some hx38).2]
    apply obindE h; intro r39 hx40 h
    have hc := nx (r01_Small_ok (h := hx40))
    refine callK_pure hc (by simp only [go_sem, reduceEqDiff, reduceAdd, reduceSub, reduceMul, reduceLeDiff, reduceLT, Nat.reduceBEq, reduceIte]) ?_
    try simp only [go_sem, reduceEqDiff, reduceAdd, reduceSub, reduceMul, reduceLeDiff, reduceLT, Nat.reduceBEq, reduceIte, (idx_some hx38).1, (idx_some hx38).2]
    refine AW.cut [0] [(0, .d (slD i64V p0)), (1, .d (slD i64V p1)), (12, .msl 0 1 0 (i30_2.length)), (13, .d (slD i64V r39)), (14, .d (.val (.int .i64 i30_1)))] [some ⟨1, (i30_2.map i64V).map (·.map .d)⟩] (by simp only [go_sem, reduceEqDiff, reduceAdd, reduceSub, reduceMul, reduceLeDiff, reduceLT, Nat.reduceBEq, reduceIte, (idx_some hx38).1, (idx_some hx38).2]) ?_
    refine AW.one ?_
    refine AW.op mixed ?_
    apply obindE h; intro r41 hx42 h
    have hc := nx (r01_Cmp_ok (h := hx42))
    refine callP hc ?_
    refine AW.cu [0] [(0, .d (slD i64V p0)), (1, .d (slD i64V p1)), (12, .msl 0 1 0 (i30_2.length)), (13, .d (slD i64V r39)), (14, .d (.val (.int .i64 i30_1))), (74, .d (.val (.bool (decide (r41 < (0 : Int))))))] [some ⟨1, (i30_2.map i64V).map (·.map .d)⟩] ?_
    refine AW.ts (decide (r41 < (0 : Int))) (fun hb43 => ?_) (fun hb43 => ?_)
    ·have h := ifT hb43 h
     refine AW.ex ?_
     exact JoinQ.ar (r39, i30_2) [0] (Option.some.inj h)
    have h := ifF hb43 h
    refine AW.sk ?_
    refine AW.cu [0] [(0, .d (slD i64V p0)), (1, .d (slD i64V p1)), (12, .msl 0 1 0 (i30_2.length)), (13, .d (slD i64V r39)), (14, .d (.val (.int .i64 i30_1)))] [some ⟨1, (i30_2.map i64V).map (·.map .d)⟩] ?_
    refine AW.op mixed ?_
    apply obindE h; intro r44 hx45 h
    have hc := nx (r01_digit_ok (h := hx45))
    refine callP hc ?_
    apply obindE h; intro x46 hx47 h
    try simp only [go_sem, reduceEqDiff, reduceAdd, reduceSub, reduceMul, reduceLeDiff, reduceLT, Nat.reduceBEq, reduceIte, (idx_some hx47).1, idx_lt hx47, (idx_some hx47).2, List.length_set, (rows_set (l := i30_2) (f := i64V) (i := i30_1.toNat) (v' := r44) (row := [.d (.val (.int .i64 r44))]) (by simp only [go_sem, reduceEqDiff, reduceAdd, reduceSub, reduceMul, reduceLeDiff, reduceLT, Nat.reduceBEq, reduceIte]))]
    refine AW.cut [0] [(0, .d (slD i64V p0)), (1, .d (slD i64V p1)), (12, .msl 0 1 0 ((i30_2.set (i30_1.toNat) r44).length)), (13, .d (slD i64V r39)), (14, .d (.val (.int .i64 i30_1)))] [some ⟨1, ((i30_2.set (i30_1.toNat) r44).map i64V).map (·.map .d)⟩] (by simp only [go_sem, reduceEqDiff, reduceAdd, reduceSub, reduceMul, reduceLeDiff, reduceLT, Nat.reduceBEq, reduceIte, (idx_some hx47).1, idx_lt hx47, (idx_some hx47).2, List.length_set, (rows_set (l := i30_2) (f := i64V) (i := i30_1.toNat) (v' := r44) (row := [.d (.val (.int .i64 r44))]) (by simp only [go_sem, reduceEqDiff, reduceAdd, reduceSub, reduceMul, reduceLeDiff, reduceLT, Nat.reduceBEq, reduceIte]))]) ?_
    refine AW.rg mixed ?_
    apply obindE h; intro x48 hx49 h
    try simp only [go_sem, reduceEqDiff, reduceAdd, reduceSub, reduceMul, reduceLeDiff, reduceLT, Nat.reduceBEq, reduceIte, (idx_some hx49).1, idx_lt_set hx49, idx_lt hx49, (idx_some hx49).2]
    apply obindE h; intro r50 hx51 h
    have hc := nx (r01_Small_ok (h := hx51))
    refine callK_pure hc (by simp only [go_sem, reduceEqDiff, reduceAdd, reduceSub, reduceMul, reduceLeDiff, reduceLT, Nat.reduceBEq, reduceIte]) ?_
    try simp only [go_sem, reduceEqDiff, reduceAdd, reduceSub, reduceMul, reduceLeDiff, reduceLT, Nat.reduceBEq, reduceIte, (idx_some hx49).1, idx_lt_set hx49, idx_lt hx49, (idx_some hx49).2]
    apply obindE h; intro r52 hx53 h
    have hc := nx (r01_Sub_ok (h := hx53))
    refine callK_pure hc (by simp only [go_sem, reduceEqDiff, reduceAdd, reduceSub, reduceMul, reduceLeDiff, reduceLT, Nat.reduceBEq, reduceIte]) ?_
    try simp only [go_sem, reduceEqDiff, reduceAdd, reduceSub, reduceMul, reduceLeDiff, reduceLT, Nat.reduceBEq, reduceIte, (idx_some hx49).1, idx_lt_set hx49, idx_lt hx49, (idx_some hx49).2]
    refine JoinQ.mk (r52, (i30_2.set (i30_1.toNat) r44)) [0] (Option.some.inj h) (by simp only [go_sem, reduceEqDiff, reduceAdd, reduceSub, reduceMul, reduceLeDiff, reduceLT, Nat.reduceBEq, reduceIte, (idx_some hx49).1, idx_lt_set hx49, idx_lt hx49, (idx_some hx49).2])
   rintro ⟨v35_0, v35_1⟩ rfl
   have h := hJ36
   try dsimp only [Out.fin] at h
   refine nz ?_
   refine AW.rg mixed ?_
   exact NextQ.ar (v35_0, IntKind.wrap .i64 (i30_1 - (1 : Int)), v35_1) [0] h
  have h := ifF hb34 h
  refine AW.ex ?_
  exact JoinQ.ar (i30_0, i30_2) [0] (Option.some.inj h)
 rintro ⟨e31_0, e31_1⟩ rfl
 have h := hJ33
 try dsimp only [Out.fin] at h
 refine nz ?_
 refine AW.cu [0] [(12, .msl 0 1 0 (e31_1.length)), (13, .d (slD i64V e31_0))] [some ⟨1, (e31_1.map i64V).map (·.map .d)⟩] ?_
 refine AW.op mixed ?_
 apply obindE h; intro r54 hx55 h
 have hc := nx (r01_trim_ok (h := hx55))
 refine callK_seal [0] hc ⟨sealArr (by simp only [go_sem, reduceEqDiff, reduceAdd, reduceSub, reduceMul, reduceLeDiff, reduceLT, Nat.reduceBEq, reduceIte]), trivial⟩ (by simp only [go_sem, reduceEqDiff, reduceAdd, reduceSub, reduceMul, reduceLeDiff, reduceLT, Nat.reduceBEq, reduceIte]) (by simp only [go_sem, reduceEqDiff, reduceAdd, reduceSub, reduceMul, reduceLeDiff, reduceLT, Nat.reduceBEq, reduceIte]) ?_
 try simp only [go_sem, reduceEqDiff, reduceAdd, reduceSub, reduceMul, reduceLeDiff, reduceLT, Nat.reduceBEq, reduceIte]
 refine AW.ret ?_
 obtain rfl := Option.some.inj h
 refine nz ?_
 exact .same _
/-! ### isochrone/isochroneref01.GCD -/
def r01_GCD (K : Nat) (p0 : List Int) (p1 : List Int) : Option (List Int) := ((iter (S := (List Int) × (List Int)) (R := Out (List Int) _) K (fun again (i1_0, i1_1) =>
  if (decide ((0 : Int) < (i1_1.length : Int))) then
   (r01_little K i1_0).bind fun r6 =>
   (r01_little K i1_1).bind fun r8 =>
   ((
    ((
     if r6.2 then
      some r8.2
     else
      some false) : Option Bool).bind (fun v12_0 =>
    if v12_0 then
     ((iter (S := Int × Int) (R := Int) K (fun again (i16_0, i16_1) =>
      if (decide ((0 : Int) < i16_1)) then
       (must (i16_1 != 0)).bind fun z21 =>
       again (i16_1, i16_0.tmod i16_1)
      else
       some i16_0) (r6.1, r8.1)) : Option Int).bind (fun e17_0 =>
     (r01_Int K e17_0).bind fun r23 =>
     outM (
      outM (
       some r23)))
    else
     some (.go ()))) : Option (Out Unit _)).bind (Out.fin fun _ =>
   (r01_DivMod K i1_0 i1_1).bind fun r25 =>
   again (i1_1, r25.2))
  else
   some (.go i1_0)) (p0, p1)) : Option (Out (List Int) _)).bind (Out.fin fun e2_0 =>
 some e2_0)
set_option maxHeartbeats 4000000 in
theorem r01_GCD_ok {K : Nat} {p0 : List Int} {p1 : List Int} {r : (List Int)} (h : r01_GCD K p0 p1 = some r) : Cn Tryz.prog 95 [.d (slD i64V p0), .d (slD i64V p1)] (.d (slD i64V r)) := by
 refine Cn.oz Tryz.func95 Tryz.call95 Tryz.ntmps95 Tryz.results95 fun hfit => ?_
 unfold r01_GCD at h
 refine AW.kr [] [0, 1] ?_
 refine AW.ks [] [0, 1] ?_
 refine AW.lo h (fun e2_0 => [(0, vL i64V e2_0)]) (fun e2_0 => []) (fun (i1_0, i1_1) => [(0, vL i64V i1_0), (1, vL i64V i1_1)]) (fun (i1_0, i1_1) => []) [] (fun oJ4 hJ4 again ⟨i1_0, i1_1⟩ h => ?_) fun e2_0 h => ?_
 ·try dsimp only at h
  refine AW.one ?_
  refine AW.ro ?_
  refine AW.ks [] [0, 1, 13] ?_
  refine AW.tt h (fun hb5 h => ?_) fun hb5 h => ?_
  ·refine AW.sk ?_
   refine AW.ks [] [0, 1] ?_
   refine AW.block ?_
   refine AW.ro ?_
   refine cm h r01_little_ok fun r6 hx7 h => ?_
   refine AW.kr [] [0, 1, 5, 6] ?_
   refine cm h r01_little_ok fun r8 hx9 h => ?_
   refine AW.ks [] [0, 1, 5, 6, 7, 8] ?_
   refine AW.jo h (fun _ => [(0, vL i64V i1_0), (1, vL i64V i1_1)]) (fun _ => []) (fun oJ11 h hJ11 => ?_) fun ⟨⟩ h => ?_
   ·refine AW.jn h (fun v12_0 => [(0, vL i64V i1_0), (1, vL i64V i1_1), (5, vI r6.1), (7, vI r8.1), (27, vB v12_0)]) (fun v12_0 => []) (fun oJ13 h => ?_) fun v12_0 h => ?_
    ·refine AW.rp ?_
     refine sK h (fun hb14 h => ?_) fun hb14 h => ?_
     ·exact ja [] h
     exact ja [] h
    refine AW.tk h (fun hb15 h => ?_) fun hb15 h => ?_
    ·refine AW.ln h (fun e17_0 => [(5, vI e17_0)]) (fun e17_0 => []) (fun (i16_0, i16_1) => [(5, vI i16_0), (7, vI i16_1)]) (fun (i16_0, i16_1) => []) [] (fun oJ19 again ⟨i16_0, i16_1⟩ h => ?_) fun e17_0 h => ?_
     ·try dsimp only at h
      refine AW.one ?_
      refine AW.ro ?_
      refine AW.ks [] [5, 7, 29] ?_
      refine AW.tt h (fun hb20 h => ?_) fun hb20 h => ?_
      ·refine AW.sk ?_
       refine AW.ks [] [5, 7] ?_
       refine AW.block ?_
       refine AW.rp ?_
       apply bE h; intro _ hx22 h; have hx22 := mr hx22; refine ns ?_
       exact na [] h
      refine AW.ex ?_
      exact ja [] h
     refine AW.kr [] [5] ?_
     refine cm h r01_Int_ok fun r23 hx24 h => ?_
     refine AW.ret ?_
     have h := up h hJ11
     have h := up h hJ4
     cases h; refine nz ?_; exact .same _
    exact jo [] h
   refine AW.ro ?_
   refine cm h r01_DivMod_ok fun r25 hx26 h => ?_
   refine AW.ks [] [1, 10] ?_
   refine AW.rp ?_
   exact na [] h
  refine AW.ex ?_
  exact jo [] h
 refine AW.kr [] [0] ?_
 refine AW.ret ?_
 cases h; refine nz ?_; exact .same _
/-! ### isochrone/isochroneref01.Of -/
def r01_Of (K : Nat) (p0 : List Int) : Option (List Int) := ((iter (S := (List Int) × Int) (R := (List Int)) K (fun again (i5_0, i5_1) =>
  if (decide ((0 : Int) ≤ i5_1)) then
   (idx p0 i5_1).bind fun x10 =>
   (must (decide ((0 : Int) ≤ (16 : Int)))).bind fun _ =>
   (r01_Small K i5_0 (65536 : Int) (IntKind.wrap .i64 (bShr .u32 x10 (16 : Int)))).bind fun r13 =>
   (r01_Small K r13 (65536 : Int) (IntKind.wrap .i64 (bAnd .u32 x10 (65535 : Int)))).bind fun r15 =>
   again (r15, IntKind.wrap .i64 (i5_1 - (1 : Int)))
  else
   some i5_0) (([] : List Int), IntKind.wrap .i64 ((p0.length : Int) - (1 : Int)))) : Option (List Int)).bind (fun e6_0 =>
 some e6_0)
set_option maxHeartbeats 4000000 in
theorem r01_Of_ok {K : Nat} {p0 : List Int} {r : (List Int)} (h : r01_Of K p0 = some r) : Cn Tryz.prog 96 [.d (slD u32V p0)] (.d (slD i64V r)) := by
 have q0 := fun k z => cv_int (k' := k) (z := z) Tryz.underlying120 Tryz.underlying3
 refine Cn.oz Tryz.func96 Tryz.call96 Tryz.ntmps96 Tryz.results96 fun hfit => ?_
 unfold r01_Of at h
 refine AW.kr [] [0] ?_
 refine AW.kr [] [0] ?_
 refine AW.ks [0] [0, 3] ?_
 refine AW.one ?_
 refine AW.ro ?_
 refine AW.ks [0] [0, 3, 4] ?_
 refine AW.cutS [] [0] [(3, .d (slD i64V ([] : List Int)))] [] [(0, vL u32V p0), (3, vL i64V ([] : List Int)), (4, vI (IntKind.wrap .i64 ((p0.length : Int) - (1 : Int))))] [] (by simp only [go_sem, reduceEqDiff, reduceAdd, reduceSub, reduceMul, reduceLeDiff, reduceLT, Nat.reduceBEq, reduceIte, sealL_cons, sealL_nil]; exact sealEmp (by simp only [go_sem, reduceEqDiff, reduceAdd, reduceSub, reduceMul, reduceLeDiff, reduceLT, Nat.reduceBEq, reduceIte])) (by simp only [go_sem, reduceEqDiff, reduceAdd, reduceSub, reduceMul, reduceLeDiff, reduceLT, Nat.reduceBEq, reduceIte, sealH_cons, sealH_nil]) (by simp only [go_sem, reduceEqDiff, reduceAdd, reduceSub, reduceMul, reduceLeDiff, reduceLT, Nat.reduceBEq, reduceIte]) ?_
 refine AW.lm h (fun e6_0 => [(3, vL i64V e6_0)]) (fun e6_0 => []) (fun (i5_0, i5_1) => [(0, vL u32V p0), (3, vL i64V i5_0), (4, vI i5_1)]) (fun (i5_0, i5_1) => []) [] (fun oJ8 again ⟨i5_0, i5_1⟩ h => ?_) fun e6_0 h => ?_
 ·try dsimp only at h
  refine AW.one ?_
  refine AW.ro ?_
  refine AW.ks [] [0, 3, 4, 10] ?_
  refine AW.tt h (fun hb9 h => ?_) fun hb9 h => ?_
  ·refine AW.sk ?_
   refine AW.ks [] [0, 3, 4] ?_
   refine AW.one ?_
   refine AW.block ?_
   refine AW.ro ?_
   refine bx h fun x10 h0 h1 h => ?_
   apply bE h; intro _ hx12 h; have hx12 := ms hx12; refine ns ?_
   refine cm h r01_Small_ok fun r13 hx14 h => ?_
   refine AW.ks [] [0, 3, 4] ?_
   refine AW.rp ?_
   refine cm h r01_Small_ok fun r15 hx16 h => ?_
   refine AW.ks [] [0, 3, 4] ?_
   refine AW.rp ?_
   exact na [] h
  refine AW.ex ?_
  exact ja [] h
 refine AW.kr [] [3] ?_
 refine AW.ret ?_
 cases h; refine nz ?_; exact .same _
/-! ### isochrone/isochroneref01.Valid -/
def r01_Valid (K : Nat) (p0 : List Int) : Option Bool := if (decide ((p0.length : Int) ≤ (4096 : Int))) then
  if ((p0.length : Int) == (0 : Int)) then
   some true
  else
   (idx p0 (IntKind.wrap .i64 ((p0.length : Int) - (1 : Int)))).bind fun x3 =>
   some (x3 != (0 : Int))
 else
  some false
set_option maxHeartbeats 4000000 in
theorem r01_Valid_ok {K : Nat} {p0 : List Int} {r : Bool} (h : r01_Valid K p0 = some r) : Cn Tryz.prog 93 [.d (slD u32V p0)] (.d (.val (.bool r))) := by
 refine Cn.oz Tryz.func93 Tryz.call93 Tryz.ntmps93 Tryz.results93 fun hfit => ?_
 unfold r01_Valid at h
 refine AW.kr [] [0] ?_
 refine AW.kr [] [0] ?_
 refine sK h (fun hb1 h => ?_) fun hb1 h => ?_
 ·refine sK h (fun hb2 h => ?_) fun hb2 h => ?_
  ·refine AW.ret ?_
   cases h; refine nz ?_; exact .same _
  refine bx h fun x3 h0 h1 h => ?_
  refine AW.ret ?_
  cases h; refine nz ?_; exact .same _
 refine AW.ret ?_
 cases h; refine nz ?_; exact .same _
/-! ### isochrone/isochroneref02.Valid -/
def r02_Valid (K : Nat) (p0 : RatA) : Option Bool := ((
  ((
   (r01_Valid K p0.num).bind fun r5 =>
   if (!r5) then
    some true
   else
    (r01_Valid K p0.den).bind fun r8 =>
    if (!r8) then
     some true
    else
     some ((p0.den.length : Int) == (0 : Int))) : Option Bool).bind (fun v3_0 =>
  if v3_0 then
   outM (
    some false)
  else
   some (.go ()))) : Option (Out Unit _)).bind (Out.fin fun _ =>
 if ((p0.num.length : Int) == (0 : Int)) then
  if (!p0.neg) then
   if ((p0.den.length : Int) == (1 : Int)) then
    (idx p0.den (0 : Int)).bind fun x15 =>
    some (x15 == (1 : Int))
   else
    some false
  else
   some false
 else
  (r01_Of K p0.num).bind fun r17 =>
  (r01_Of K p0.den).bind fun r19 =>
  (r01_GCD K r17 r19).bind fun r21 =>
  (r01_Cmp K r21 [(1 : Int)]).bind fun r23 =>
  some (r23 == (0 : Int)))
set_option maxHeartbeats 4000000 in
theorem r02_Valid_ok {K : Nat} {p0 : RatA} {r : Bool} (h : r02_Valid K p0 = some r) : Cn Tryz.prog 58 [aggV p0.enc] (.d (.val (.bool r))) := by
 refine Cn.oz Tryz.func58 Tryz.call58 Tryz.ntmps58 Tryz.results58 fun hfit => ?_
 unfold r02_Valid at h
 refine AW.kr [] [0] ?_
 refine AW.ks [0] [1] ?_
 refine AW.jo h (fun _ => [(1, .ptr 0 3 0 0)]) (fun _ => [vE p0.enc]) (fun oJ2 h hJ2 => ?_) fun ⟨⟩ h => ?_
 ·refine AW.jn h (fun v3_0 => [(1, .ptr 0 3 0 0), (18, vB v3_0)]) (fun v3_0 => [vE p0.enc]) (fun oJ4 h => ?_) fun v3_0 h => ?_
  ·refine AW.rp ?_
   refine cm h r01_Valid_ok fun r5 hx6 h => ?_
   refine sK h (fun hb7 h => ?_) fun hb7 h => ?_
   ·exact ja [0] h
   refine cm h r01_Valid_ok fun r8 hx9 h => ?_
   refine sK h (fun hb10 h => ?_) fun hb10 h => ?_
   ·exact ja [0] h
   exact ja [0] h
  refine AW.tk h (fun hb11 h => ?_) fun hb11 h => ?_
  ·refine AW.ro ?_
   refine AW.ret ?_
   have h := up h hJ2
   cases h; refine nz ?_; exact .same _
  exact jo [0] h
 refine AW.one ?_
 refine AW.ro ?_
 refine AW.ks [0] [1, 22] ?_
 refine AW.tk h (fun hb12 h => ?_) fun hb12 h => ?_
 ·refine AW.ro ?_
  refine sK h (fun hb13 h => ?_) fun hb13 h => ?_
  ·refine sK h (fun hb14 h => ?_) fun hb14 h => ?_
   ·refine bx h fun x15 h0 h1 h => ?_
    refine AW.ret ?_
    cases h; refine nz ?_; exact .same _
   refine AW.ret ?_
   cases h; refine nz ?_; exact .same _
  refine AW.ret ?_
  cases h; refine nz ?_; exact .same _
 refine AW.kr [0] [1] ?_
 refine pm h r01_Of_ok fun r17 hx18 h => ?_
 refine pm h r01_Of_ok fun r19 hx20 h => ?_
 refine pm h r01_GCD_ok fun r21 hx22 h => ?_
 refine pm h r01_Cmp_ok fun r23 hx24 h => ?_
 refine AW.ret ?_
 cases h; refine nz ?_; exact .same _
/-! ### isochrone/isochroneref11.small -/
def r11_small (K : Nat) (p0 : RatA) (p1 : Int) : Option Bool := (r02_Valid K p0).bind fun r1 =>
 if r1 then
  if (decide ((p0.num.length : Int) ≤ p1)) then
   some (decide ((p0.den.length : Int) ≤ p1))
  else
   some false
 else
  some false
set_option maxHeartbeats 4000000 in
theorem r11_small_ok {K : Nat} {p0 : RatA} {p1 : Int} {r : Bool} (h : r11_small K p0 p1 = some r) : Cn Tryz.prog 25 [aggV p0.enc, .d (.val (.int .i64 p1))] (.d (.val (.bool r))) := by
 refine Cn.oz Tryz.func25 Tryz.call25 Tryz.ntmps25 Tryz.results25 fun hfit => ?_
 unfold r11_small at h
 refine AW.kr [] [0, 1] ?_
 refine AW.kr [0] [1, 2] ?_
 refine cm h r02_Valid_ok fun r1 hx2 h => ?_
 refine sK h (fun hb3 h => ?_) fun hb3 h => ?_
 ·refine sK h (fun hb4 h => ?_) fun hb4 h => ?_
  ·refine AW.ret ?_
   cases h; refine nz ?_; exact .same _
  refine AW.ret ?_
  cases h; refine nz ?_; exact .same _
 refine AW.ret ?_
 cases h; refine nz ?_; exact .same _
structure Api_BindingA where
 name : ByteArray
 val : RatA
def Api_BindingA.enc (x : Api_BindingA) : List D := [.val (.string x.name), .val (.bool x.val.neg), slD u32V x.val.num, slD u32V x.val.den]
theorem Api_BindingA.enc_eta (x : Api_BindingA) : x.enc = [.val (.string x.name), .val (.bool x.val.neg), slD u32V x.val.num, slD u32V x.val.den] := rfl
attribute [go_sem] Api_BindingA.enc_eta
/-! ### isochrone/isochroneref11.Valid -/
def r11_Valid (K : Nat) (p0 : List Api_BindingA) : Option Bool := if (decide ((40 : Int) < (p0.length : Int))) then
  some false
 else
  ((iter (S := Int) (R := Out Unit _) K (fun again i2_0 =>
   if (decide (i2_0 < (p0.length : Int))) then
    ((
     ((
      (idx p0 i2_0).bind fun x11 =>
      (r10_Variable K x11.name).bind fun r13 =>
      if (!r13) then
       some true
      else
       (r11_small K x11.val (400 : Int)).bind fun r16 =>
       if (!r16) then
        some true
       else
        if ((x11.val.num.length : Int) == (0 : Int)) then
         some true
        else
         if (decide ((0 : Int) < i2_0)) then
          (idx p0 (IntKind.wrap .i64 (i2_0 - (1 : Int)))).bind fun x21 =>
          some (!Op.bytesLess x21.name.toList x11.name.toList)
         else
          some false) : Option Bool).bind (fun v9_0 =>
     if v9_0 then
      outM (
       outM (
        some false))
     else
      some (.go ()))) : Option (Out Unit _)).bind (Out.fin fun _ =>
    again (IntKind.wrap .i64 (i2_0 + (1 : Int))))
   else
    some (.go ())) (0 : Int)) : Option (Out Unit _)).bind (Out.fin fun _ =>
  some true)
set_option maxHeartbeats 4000000 in
theorem r11_Valid_ok {K : Nat} {p0 : List Api_BindingA} {r : Bool} (h : r11_Valid K p0 = some r) : Cn Tryz.prog 22 [.d (slD Api_BindingA.enc p0)] (.d (.val (.bool r))) := by
 refine Cn.oz Tryz.func22 Tryz.call22 Tryz.ntmps22 Tryz.results22 fun hfit => ?_
 unfold r11_Valid at h
 refine AW.kr [] [0] ?_
 refine AW.ks [] [0] ?_
 refine AW.one ?_
 refine AW.ro ?_
 refine AW.ks [] [0, 6] ?_
 refine AW.tk h (fun hb1 h => ?_) fun hb1 h => ?_
 ·refine AW.ro ?_
  refine AW.ret ?_
  cases h; refine nz ?_; exact .same _
 refine AW.ks [] [0] ?_
 refine AW.one ?_
 refine AW.ro ?_
 refine AW.ks [] [0, 3] ?_
 refine AW.lp h (fun _ => []) (fun _ => []) (fun i2_0 => [(0, vL Api_BindingA.enc p0), (3, vI i2_0)]) (fun i2_0 => []) [] (fun oJ5 hJ5 again i2_0 h => ?_) fun ⟨⟩ h => ?_
 ·refine AW.one ?_
  refine AW.ro ?_
  refine AW.ks [] [0, 3, 10] ?_
  refine AW.tt h (fun hb6 h => ?_) fun hb6 h => ?_
  ·refine AW.sk ?_
   refine AW.ks [] [0, 3] ?_
   refine AW.jo h (fun _ => [(0, vL Api_BindingA.enc p0), (3, vI i2_0)]) (fun _ => []) (fun oJ8 h hJ8 => ?_) fun ⟨⟩ h => ?_
   ·refine AW.block ?_
    refine AW.jn h (fun v9_0 => [(0, vL Api_BindingA.enc p0), (3, vI i2_0), (56, vB v9_0)]) (fun v9_0 => []) (fun oJ10 h => ?_) fun v9_0 h => ?_
    ·refine AW.rp ?_
     refine bx h fun x11 h0 h1 h => ?_
     refine pm h r10_Variable_ok fun r13 hx14 h => ?_
     refine sK h (fun hb15 h => ?_) fun hb15 h => ?_
     ·exact ja [] h
     refine pm h r11_small_ok fun r16 hx17 h => ?_
     refine sK h (fun hb18 h => ?_) fun hb18 h => ?_
     ·exact ja [] h
     refine sK h (fun hb19 h => ?_) fun hb19 h => ?_
     ·exact ja [] h
     refine sK h (fun hb20 h => ?_) fun hb20 h => ?_
     ·refine bx h fun x21 h0 h1 h => ?_
      exact ja [] h
     exact ja [] h
    refine AW.tk h (fun hb23 h => ?_) fun hb23 h => ?_
    ·refine AW.ro ?_
     refine AW.ret ?_
     have h := up h hJ8
     have h := up h hJ5
     cases h; refine nz ?_; exact .same _
    exact jo [] h
   refine AW.rp ?_
   exact na [] h
  refine AW.ex ?_
  exact jo [] h
 refine AW.kr [] [] ?_
 refine AW.ret ?_
 cases h; refine nz ?_; exact .same _
/-! ### isochrone/isochroneref01.Words -/
def r01_Words (K : Nat) (p0 : List Int) : Option (List Int) := ((iter (S := (List Int) × (List Int)) (R := (List Int)) K (fun again (i1_0, i1_1) =>
  if (decide ((0 : Int) < (i1_0.length : Int))) then
   (r01_Split K i1_0 (65536 : Int)).bind fun r6 =>
   (appO 8 i1_1 [r6.2]).bind fun l8 =>
   again (r6.1, l8)
  else
   some i1_1) (p0, [])) : Option (List Int)).bind (fun e2_0 =>
 ((iter (S := Int × (List Int)) (R := (List Int)) K (fun again (i10_0, i10_1) =>
  if (decide (i10_0 < (e2_0.length : Int))) then
   ((
    (idx e2_0 i10_0).bind fun x17 =>
    ((
     if (decide ((IntKind.wrap .i64 (i10_0 + (1 : Int))) < (e2_0.length : Int))) then
      (idx e2_0 (IntKind.wrap .i64 (i10_0 + (1 : Int)))).bind fun x22 =>
      (must (decide ((0 : Int) ≤ (16 : Int)))).bind fun _ =>
      some (IntKind.wrap .u32 ((IntKind.wrap .u32 x17) + (bShl .u32 (IntKind.wrap .u32 x22) (16 : Int))))
     else
      some (IntKind.wrap .u32 x17)) : Option Int).bind (fun v19_0 =>
    (appO 4 i10_1 [v19_0]).bind fun l25 =>
    some l25)) : Option (List Int)).bind (fun v15_0 =>
   again (IntKind.wrap .i64 (i10_0 + (2 : Int)), v15_0))
  else
   some i10_1) ((0 : Int), [])) : Option (List Int)).bind (fun e11_0 =>
 some e11_0))
set_option maxHeartbeats 4000000 in
theorem r01_Words_ok {K : Nat} {p0 : List Int} {r : (List Int)} (h : r01_Words K p0 = some r) : Cn Tryz.prog 92 [.d (slD i64V p0)] (.d (slD u32V r)) := by
 have q0 := fun k z => cv_int (k' := k) (z := z) Tryz.underlying3 Tryz.underlying120
 refine Cn.oz Tryz.func92 Tryz.call92 Tryz.ntmps92 Tryz.results92 fun hfit => ?_
 unfold r01_Words at h
 refine AW.kr [] [0] ?_
 refine AW.kr [] [0] ?_
 refine AW.ks [] [0, 3] ?_
 refine AW.ln h (fun e2_0 => [(3, accV 0 1 ((e2_0.map i64V).map (·.map .d)))]) (fun e2_0 => [accO 1 ((e2_0.map i64V).map (·.map .d))]) (fun (i1_0, i1_1) => [(0, vL i64V i1_0), (3, accV 0 1 ((i1_1.map i64V).map (·.map .d)))]) (fun (i1_0, i1_1) => [accO 1 ((i1_1.map i64V).map (·.map .d))]) [1000] (fun oJ4 again ⟨i1_0, i1_1⟩ h => ?_) fun e2_0 h => ?_
 ·try dsimp only at h
  refine AW.one ?_
  refine AW.ro ?_
  refine AW.ks [0] [0, 3, 11] ?_
  refine AW.tt h (fun hb5 h => ?_) fun hb5 h => ?_
  ·refine AW.sk ?_
   refine AW.ks [0] [0, 3] ?_
   refine AW.block ?_
   refine AW.ro ?_
   refine cm h r01_Split_ok fun r6 hx7 h => ?_
   refine AW.kr [0] [3, 4, 5] ?_
   refine ag (f := i64V) h fun l8 hx9 h => ?_
   refine AW.ks [4] [3, 4] ?_
   refine AW.rp ?_
   exact na [0] h
  refine AW.ex ?_
  exact ja [0] h
 refine AW.kr [0] [3] ?_
 refine AW.ks [0] [3, 6] ?_
 refine AW.one ?_
 refine AW.ro ?_
 refine AW.ks [0] [3, 6, 7] ?_
 refine AW.lm h (fun e11_0 => [(6, accV 0 1 ((e11_0.map u32V).map (·.map .d)))]) (fun e11_0 => [accO 1 ((e11_0.map u32V).map (·.map .d))]) (fun (i10_0, i10_1) => [(3, accV 0 1 ((e2_0.map i64V).map (·.map .d))), (6, accV 1 1 ((i10_1.map u32V).map (·.map .d))), (7, vI i10_0)]) (fun (i10_0, i10_1) => [accO 1 ((e2_0.map i64V).map (·.map .d)), accO 1 ((i10_1.map u32V).map (·.map .d))]) [0, 1001] (fun oJ13 again ⟨i10_0, i10_1⟩ h => ?_) fun e11_0 h => ?_
 ·try dsimp only at h
  refine AW.one ?_
  refine AW.ro ?_
  refine AW.ks [0, 1] [3, 6, 7, 25] ?_
  refine AW.tt h (fun hb14 h => ?_) fun hb14 h => ?_
  ·refine AW.sk ?_
   refine AW.ks [0, 1] [3, 6, 7] ?_
   refine AW.jn h (fun v15_0 => [(3, accV 0 1 ((e2_0.map i64V).map (·.map .d))), (6, accV 1 1 ((v15_0.map u32V).map (·.map .d))), (7, vI i10_0)]) (fun v15_0 => [accO 1 ((e2_0.map i64V).map (·.map .d)), accO 1 ((v15_0.map u32V).map (·.map .d))]) (fun oJ16 h => ?_) fun v15_0 h => ?_
   ·refine AW.block ?_
    refine AW.ro ?_
    refine bi h fun x17 h0 h1 h2 h3 h4 h => ?_
    refine AW.ks [0, 1] [3, 6, 7, 8] ?_
    refine AW.jn h (fun v19_0 => [(3, accV 0 1 ((e2_0.map i64V).map (·.map .d))), (6, accV 1 1 ((i10_1.map u32V).map (·.map .d))), (7, vI i10_0), (8, .d (.val (.int .u32 v19_0)))]) (fun v19_0 => [accO 1 ((e2_0.map i64V).map (·.map .d)), accO 1 ((i10_1.map u32V).map (·.map .d))]) (fun oJ20 h => ?_) fun v19_0 h => ?_
    ·refine AW.ro ?_
     refine AW.ks [0, 1] [3, 6, 7, 8, 37] ?_
     refine AW.tk h (fun hb21 h => ?_) fun hb21 h => ?_
     ·refine AW.rp ?_
      refine bi h fun x22 h0 h1 h2 h3 h4 h => ?_
      apply bE h; intro _ hx24 h; have hx24 := ml hx24; refine ns ?_
      exact ja [0, 1] h
     exact ja [0, 1] h
    refine AW.rp ?_
    refine ag (f := u32V) h fun l25 hx26 h => ?_
    exact ja [0, 5] h
   refine AW.rp ?_
   exact na [0, 1] h
  refine AW.ex ?_
  exact ja [1] h
 refine AW.kr [0] [6] ?_
 refine AW.ret ?_
 cases h; refine nz ?_; exact sealAcc (by simp only [go_sem, reduceEqDiff, reduceAdd, reduceSub, reduceMul, reduceLeDiff, reduceLT, Nat.reduceBEq, reduceIte])
structure Isochroneref02_RatA where
 neg : Bool
 n : List Int
 d : List Int
def Isochroneref02_RatA.enc (x : Isochroneref02_RatA) : List D := [.val (.bool x.neg), slD i64V x.n, slD i64V x.d]
theorem Isochroneref02_RatA.enc_eta (x : Isochroneref02_RatA) : x.enc = [.val (.bool x.neg), slD i64V x.n, slD i64V x.d] := rfl
attribute [go_sem] Isochroneref02_RatA.enc_eta
/-! ### isochrone/isochroneref02.Zero -/
def r02_Zero (K : Nat)  : Option Isochroneref02_RatA := some (Isochroneref02_RatA.mk false ([] : List Int) [(1 : Int)])
set_option maxHeartbeats 4000000 in
theorem r02_Zero_ok {K : Nat}  {r : Isochroneref02_RatA} (h : r02_Zero K  = some r) : Cn Tryz.prog 32 [] (aggV r.enc) := by
 refine Cn.oz Tryz.func32 Tryz.call32 Tryz.ntmps32 Tryz.results32 fun hfit => ?_
 unfold r02_Zero at h
 refine AW.kr [] [] ?_
 refine AW.kr [0] [0] ?_
 refine AW.ret ?_
 cases h; refine nz ?_; exact .aggL ⟨.same _, sealEmp (by simp only [go_sem, reduceEqDiff, reduceAdd, reduceSub, reduceMul, reduceLeDiff, reduceLT, Nat.reduceBEq, reduceIte]), .same _, trivial⟩
/-! ### isochrone/isochroneref02.To -/
def r02_To (K : Nat) (p0 : Isochroneref02_RatA) : Option RatA := (r01_Words K p0.n).bind fun r1 =>
 (r01_Words K p0.d).bind fun r3 =>
 some (RatA.mk p0.neg r1 r3)
set_option maxHeartbeats 4000000 in
theorem r02_To_ok {K : Nat} {p0 : Isochroneref02_RatA} {r : RatA} (h : r02_To K p0 = some r) : Cn Tryz.prog 57 [aggV p0.enc] (aggV r.enc) := by
 refine Cn.oz Tryz.func57 Tryz.call57 Tryz.ntmps57 Tryz.results57 fun hfit => ?_
 unfold r02_To at h
 refine AW.kr [] [0] ?_
 refine AW.kr [0, 1] [1, 2] ?_
 refine pm h r01_Words_ok fun r1 hx2 h => ?_
 refine pm h r01_Words_ok fun r3 hx4 h => ?_
 refine AW.ret ?_
 cases h; refine nz ?_; exact .same _
/-! ### isochrone/isochroneref11.get -/
def r11_get (K : Nat) (p0 : List Api_BindingA) (p1 : ByteArray) : Option RatA := ((iter (S := Int) (R := Out Unit _) K (fun again i1_0 =>
  if (decide (i1_0 < (p0.length : Int))) then
   (idx p0 i1_0).bind fun x6 =>
   if (x6.name.toList == p1.toList) then
    outM (
     some x6.val)
   else
    again (IntKind.wrap .i64 (i1_0 + (1 : Int)))
  else
   some (.go ())) (0 : Int)) : Option (Out Unit _)).bind (Out.fin fun _ =>
 (r02_Zero K ).bind fun r9 =>
 (r02_To K r9).bind fun r11 =>
 some r11)
set_option maxHeartbeats 4000000 in
theorem r11_get_ok {K : Nat} {p0 : List Api_BindingA} {p1 : ByteArray} {r : RatA} (h : r11_get K p0 p1 = some r) : Cn Tryz.prog 24 [.d (slD Api_BindingA.enc p0), .d (.val (.string p1))] (aggV r.enc) := by
 refine Cn.oz Tryz.func24 Tryz.call24 Tryz.ntmps24 Tryz.results24 fun hfit => ?_
 unfold r11_get at h
 refine AW.kr [] [0, 1] ?_
 refine AW.ks [0] [0, 1, 4] ?_
 refine AW.one ?_
 refine AW.ro ?_
 refine AW.ks [0] [0, 1, 4, 5] ?_
 refine AW.lp h (fun _ => [(4, .ptr 0 3 0 0)]) (fun _ => [some ⟨3, [[vB false, .d (.val (.slice none 0 0)), .d (.val (.slice none 0 0))]]⟩]) (fun i1_0 => [(0, vL Api_BindingA.enc p0), (1, vS p1), (4, .ptr 0 3 0 0), (5, vI i1_0)]) (fun i1_0 => [some ⟨3, [[vB false, .d (.val (.slice none 0 0)), .d (.val (.slice none 0 0))]]⟩]) [0] (fun oJ4 hJ4 again i1_0 h => ?_) fun ⟨⟩ h => ?_
 ·refine AW.one ?_
  refine AW.ro ?_
  refine AW.ks [0] [0, 1, 4, 5, 9] ?_
  refine AW.tt h (fun hb5 h => ?_) fun hb5 h => ?_
  ·refine AW.sk ?_
   refine AW.ks [0] [0, 1, 4, 5] ?_
   refine AW.one ?_
   refine AW.block ?_
   refine AW.ro ?_
   refine bx h fun x6 h0 h1 h => ?_
   refine AW.ks [0] [0, 1, 4, 5, 18] ?_
   refine AW.tk h (fun hb8 h => ?_) fun hb8 h => ?_
   ·refine AW.ro ?_
    refine AW.ret ?_
    have h := up h hJ4
    cases h; refine nz ?_; exact .same _
   refine AW.ks [0] [0, 1, 4, 5] ?_
   refine AW.rp ?_
   exact na [0] h
  refine AW.ex ?_
  exact jo [0] h
 refine AW.kr [0] [4] ?_
 refine cm h r02_Zero_ok fun r9 hx10 h => ?_
 refine cm h r02_To_ok fun r11 hx12 h => ?_
 refine AW.ret ?_
 cases h; refine nz ?_; exact .same _
/-! ### isochrone/isochroneref11.Get -/
def r11_Get (K : Nat) (p0 : List Api_BindingA) (p1 : ByteArray) : Option (RatA × Int) := ((
  ((
   (r11_Valid K p0).bind fun r5 =>
   if (!r5) then
    some true
   else
    (r10_Variable K p1).bind fun r8 =>
    some (!r8)) : Option Bool).bind (fun v3_0 =>
  if v3_0 then
   outM (
    some ((RatA.mk false [] []), (3 : Int)))
  else
   some (.go ()))) : Option (Out Unit _)).bind (Out.fin fun _ =>
 (r11_get K p0 p1).bind fun r11 =>
 some (r11, (0 : Int)))
set_option maxHeartbeats 4000000 in
theorem r11_Get_ok {K : Nat} {p0 : List Api_BindingA} {p1 : ByteArray} {r : RatA × Int} (h : r11_Get K p0 p1 = some r) : Cn Tryz.prog 8 [.d (slD Api_BindingA.enc p0), .d (.val (.string p1))] (.tup [aggV r.1.enc, .d (.val (.int .i64 r.2))]) := by
 refine Cn.oz Tryz.func8 Tryz.call8 Tryz.ntmps8 Tryz.results8 fun hfit => ?_
 unfold r11_Get at h
 refine AW.kr [] [0, 1] ?_
 refine AW.ks [0] [0, 1, 4] ?_
 refine AW.jo h (fun _ => [(0, vL Api_BindingA.enc p0), (1, vS p1), (4, .ptr 0 3 0 0)]) (fun _ => [some ⟨3, [[vB false, .d (.val (.slice none 0 0)), .d (.val (.slice none 0 0))]]⟩]) (fun oJ2 h hJ2 => ?_) fun ⟨⟩ h => ?_
 ·refine AW.jn h (fun v3_0 => [(0, vL Api_BindingA.enc p0), (1, vS p1), (4, .ptr 0 3 0 0), (13, vB v3_0)]) (fun v3_0 => [some ⟨3, [[vB false, .d (.val (.slice none 0 0)), .d (.val (.slice none 0 0))]]⟩]) (fun oJ4 h => ?_) fun v3_0 h => ?_
  ·refine AW.rp ?_
   refine cm h r11_Valid_ok fun r5 hx6 h => ?_
   refine sK h (fun hb7 h => ?_) fun hb7 h => ?_
   ·exact ja [0] h
   refine cm h r10_Variable_ok fun r8 hx9 h => ?_
   exact ja [0] h
  refine AW.tk h (fun hb10 h => ?_) fun hb10 h => ?_
  ·refine AW.ro ?_
   refine AW.ret ?_
   have h := up h hJ2
   cases h; refine nz ?_; exact .tupL ⟨.aggL ⟨.same _, .nil, .nil, trivial⟩, .same _, trivial⟩
  exact jo [0] h
 refine AW.ro ?_
 refine cm h r11_get_ok fun r11 hx12 h => ?_
 refine AW.ret ?_
 cases h; refine nz ?_; exact .same _
/-! ### isochrone/isochroneref10.Occurs -/
def r10_Occurs_body (K : Nat) (self61 : (NodeA × Int) → Option Bool) (p0 : NodeA) (p1 : Int) : Option Bool := if (p0.op == p1) then
  some true
 else
  ((iter (S := Int) (R := Out Unit _) K (fun again i2_0 =>
   if (decide (i2_0 < (p0.kids.length : Int))) then
    (idx p0.kids i2_0).bind fun x7 =>
    (self61 (x7, p1)).bind fun r9 =>
    if r9 then
     outM (
      some true)
    else
     again (IntKind.wrap .i64 (i2_0 + (1 : Int)))
   else
    some (.go ())) (0 : Int)) : Option (Out Unit _)).bind (Out.fin fun _ =>
  some false)
set_option maxHeartbeats 4000000 in
theorem r10_Occurs_step (K : Nat) (self61 : (NodeA × Int) → Option Bool) (hself61 : ∀ (q : NodeA × Int) (r : Bool), self61 q = some r → Cn Tryz.prog 61 [aggV q.1.enc, .d (.val (.int .i64 q.2))] (.d (.val (.bool r)))) (p0 : NodeA) (p1 : Int) (r : Bool) (h : r10_Occurs_body K self61 p0 p1 = some r) : Cn Tryz.prog 61 [aggV p0.enc, .d (.val (.int .i64 p1))] (.d (.val (.bool r))) := by
 refine Cn.oz Tryz.func61 Tryz.call61 Tryz.ntmps61 Tryz.results61 fun hfit => ?_
 unfold r10_Occurs_body at h
 refine AW.kr [] [0, 1] ?_
 refine AW.ks [0] [1, 2] ?_
 refine AW.one ?_
 refine AW.ro ?_
 refine AW.ks [0] [1, 2, 9] ?_
 refine AW.tk h (fun hb1 h => ?_) fun hb1 h => ?_
 ·refine AW.ro ?_
  refine AW.ret ?_
  cases h; refine nz ?_; exact .same _
 refine AW.ks [0] [1, 2] ?_
 refine AW.one ?_
 refine AW.ro ?_
 refine AW.ks [0] [1, 2, 5] ?_
 refine AW.lp h (fun _ => []) (fun _ => []) (fun i2_0 => [(1, vI p1), (2, .ptr 0 6 0 0), (5, vI i2_0)]) (fun i2_0 => [vE p0.enc]) [0] (fun oJ5 hJ5 again i2_0 h => ?_) fun ⟨⟩ h => ?_
 ·refine AW.one ?_
  refine AW.ro ?_
  refine AW.ks [0] [1, 2, 5, 14] ?_
  refine AW.tt h (fun hb6 h => ?_) fun hb6 h => ?_
  ·refine AW.sk ?_
   refine AW.ks [0] [1, 2, 5] ?_
   refine AW.one ?_
   refine AW.block ?_
   refine AW.ro ?_
   refine bx h fun x7 h0 h1 h => ?_
   refine cm h (hself61 _ _) fun r9 hx10 h => ?_
   refine AW.ks [0] [1, 2, 5, 23] ?_
   refine AW.tk h (fun hb11 h => ?_) fun hb11 h => ?_
   ·refine AW.ro ?_
    refine AW.ret ?_
    have h := up h hJ5
    cases h; refine nz ?_; exact .same _
   refine AW.ks [0] [1, 2, 5] ?_
   refine AW.rp ?_
   exact na [0] h
  refine AW.ex ?_
  exact jo [] h
 refine AW.kr [] [] ?_
 refine AW.ret ?_
 cases h; refine nz ?_; exact .same _
def r10_Occurs (K : Nat) (p0 : NodeA) (p1 : Int) : Option Bool := iter K (fun self q => r10_Occurs_body K self q.1 q.2) (p0, p1)
theorem key_r10_Occurs {K : Nat} (k : Nat) : (∀ (q : NodeA × Int) (r : Bool), iter k (fun self q => r10_Occurs_body K self q.1 q.2) q = some r → Cn Tryz.prog 61 [aggV q.1.enc, .d (.val (.int .i64 q.2))] (.d (.val (.bool r)))) := by
 induction k with
 | zero => exact fun q r h => by cases h
 | succ k ih => exact fun q r h => r10_Occurs_step K _ ih q.1 q.2 r h
theorem r10_Occurs_ok {K : Nat} {p0 : NodeA} {p1 : Int} {r : Bool} (h : r10_Occurs K p0 p1 = some r) : Cn Tryz.prog 61 [aggV p0.enc, .d (.val (.int .i64 p1))] (.d (.val (.bool r))) := (key_r10_Occurs K) (p0, p1) r h
/-! ### isochrone/isochroneref10.Symbol -/
def r10_Symbol (K : Nat) (p0 : NodeA) : Option Bool := ((
  if (p0.op == (10 : Int)) then
   some (p0.op == (10 : Int))
  else
   if (p0.op == (11 : Int)) then
    some (p0.op == (11 : Int))
   else
    if (p0.op == (37 : Int)) then
     some (p0.op == (37 : Int))
    else
     if (p0.op == (38 : Int)) then
      some (p0.op == (38 : Int))
     else
      if (p0.op == (61 : Int)) then
       some (p0.op == (61 : Int))
      else
       if (p0.op == (62 : Int)) then
        some (p0.op == (62 : Int))
       else
        some (p0.op == (56 : Int))) : Option Bool).bind (fun v1_0 =>
 if v1_0 then
  some true
 else
  some false)
set_option maxHeartbeats 4000000 in
theorem r10_Symbol_ok {K : Nat} {p0 : NodeA} {r : Bool} (h : r10_Symbol K p0 = some r) : Cn Tryz.prog 62 [aggV p0.enc] (.d (.val (.bool r))) := by
 refine Cn.oz Tryz.func62 Tryz.call62 Tryz.ntmps62 Tryz.results62 fun hfit => ?_
 unfold r10_Symbol at h
 refine AW.kr [] [0] ?_
 refine AW.ks [0] [1] ?_
 refine AW.one ?_
 refine AW.ro ?_
 refine AW.ks [] [4] ?_
 refine AW.block ?_
 refine AW.jn h (fun v1_0 => [(5, vB v1_0)]) (fun v1_0 => []) (fun oJ2 h => ?_) fun v1_0 h => ?_
 ·refine AW.ro ?_
  refine AW.ks [] [4, 5] ?_
  refine AW.tt h (fun hb3 h => ?_) fun hb3 h => ?_
  ·refine AW.sk ?_
   exact ja [] h
  refine AW.ro ?_
  refine AW.ks [] [4, 5] ?_
  refine AW.tt h (fun hb4 h => ?_) fun hb4 h => ?_
  ·refine AW.sk ?_
   exact ja [] h
  refine AW.ro ?_
  refine AW.ks [] [4, 5] ?_
  refine AW.tt h (fun hb5 h => ?_) fun hb5 h => ?_
  ·refine AW.sk ?_
   exact ja [] h
  refine AW.ro ?_
  refine AW.ks [] [4, 5] ?_
  refine AW.tt h (fun hb6 h => ?_) fun hb6 h => ?_
  ·refine AW.sk ?_
   exact ja [] h
  refine AW.ro ?_
  refine AW.ks [] [4, 5] ?_
  refine AW.tt h (fun hb7 h => ?_) fun hb7 h => ?_
  ·refine AW.sk ?_
   exact ja [] h
  refine AW.ro ?_
  refine AW.ks [] [4, 5] ?_
  refine AW.tt h (fun hb8 h => ?_) fun hb8 h => ?_
  ·refine AW.sk ?_
   exact ja [] h
  refine AW.rp ?_
  exact ja [] h
 refine AW.tk h (fun hb9 h => ?_) fun hb9 h => ?_
 ·refine AW.ro ?_
  refine AW.ret ?_
  cases h; refine nz ?_; exact .same _
 refine AW.kr [] [] ?_
 refine AW.ret ?_
 cases h; refine nz ?_; exact .same _
/-! ### isochrone/isochroneref11.IsSymbol -/
def r11_IsSymbol (K : Nat) (p0 : NodeA) : Option Bool := ((
  ((
   (r10_Symbol K p0).bind fun r5 =>
   if (!r5) then
    some true
   else
    (r08_Name K p0.name).bind fun r8 =>
    if (!r8) then
     some true
    else
     if p0.num.neg then
      some true
     else
      if (decide ((0 : Int) < (p0.num.num.length : Int))) then
       some true
      else
       some (decide ((0 : Int) < (p0.num.den.length : Int)))) : Option Bool).bind (fun v3_0 =>
  if v3_0 then
   outM (
    some false)
  else
   some (.go ()))) : Option (Out Unit _)).bind (Out.fin fun _ =>
 if ((p0.kids.length : Int) == (0 : Int)) then
  some true
 else
  (idx p0.kids (0 : Int)).bind fun x15 =>
  if ((p0.kids.length : Int) == (1 : Int)) then
   if (p0.op == (10 : Int)) then
    (r08_Equal K x15 (NodeA.mk (13 : Int) (⟨#[]⟩ : ByteArray) (RatA.mk false [] []) [])).bind fun r19 =>
    some r19
   else
    if (p0.op == (37 : Int)) then
     (r08_Equal K x15 (NodeA.mk (13 : Int) (⟨#[]⟩ : ByteArray) (RatA.mk false [] []) [])).bind fun r22 =>
     some r22
    else
     some false
  else
   some false)
set_option maxHeartbeats 4000000 in
theorem r11_IsSymbol_ok {K : Nat} {p0 : NodeA} {r : Bool} (h : r11_IsSymbol K p0 = some r) : Cn Tryz.prog 59 [aggV p0.enc] (.d (.val (.bool r))) := by
 refine Cn.oz Tryz.func59 Tryz.call59 Tryz.ntmps59 Tryz.results59 fun hfit => ?_
 unfold r11_IsSymbol at h
 refine AW.kr [] [0] ?_
 refine AW.ks [0] [1] ?_
 refine AW.jo h (fun _ => [(1, .ptr 0 6 0 0)]) (fun _ => [vE p0.enc]) (fun oJ2 h hJ2 => ?_) fun ⟨⟩ h => ?_
 ·refine AW.jn h (fun v3_0 => [(1, .ptr 0 6 0 0), (31, vB v3_0)]) (fun v3_0 => [vE p0.enc]) (fun oJ4 h => ?_) fun v3_0 h => ?_
  ·refine AW.rp ?_
   refine cm h r10_Symbol_ok fun r5 hx6 h => ?_
   refine sK h (fun hb7 h => ?_) fun hb7 h => ?_
   ·exact ja [0] h
   refine cm h r08_Name_ok fun r8 hx9 h => ?_
   refine sK h (fun hb10 h => ?_) fun hb10 h => ?_
   ·exact ja [0] h
   refine sK h (fun hb11 h => ?_) fun hb11 h => ?_
   ·exact ja [0] h
   refine sK h (fun hb12 h => ?_) fun hb12 h => ?_
   ·exact ja [0] h
   exact ja [0] h
  refine AW.tk h (fun hb13 h => ?_) fun hb13 h => ?_
  ·refine AW.ro ?_
   refine AW.ret ?_
   have h := up h hJ2
   cases h; refine nz ?_; exact .same _
  exact jo [0] h
 refine AW.one ?_
 refine AW.ro ?_
 refine AW.ks [0] [1, 35] ?_
 refine AW.tk h (fun hb14 h => ?_) fun hb14 h => ?_
 ·refine AW.ro ?_
  refine AW.ret ?_
  cases h; refine nz ?_; exact .same _
 refine AW.kr [0] [1] ?_
 refine bx h fun x15 h0 h1 h => ?_
 refine AW.kr [0, 5] [1, 3] ?_
 refine sK h (fun hb17 h => ?_) fun hb17 h => ?_
 ·refine sK h (fun hb18 h => ?_) fun hb18 h => ?_
  ·refine cv h r08_Equal_ok (fun r19 hx20 h => ?_) (hs := by exact ⟨.same _, .aggL ⟨.same _, .same _, .same _, .nil, .nil, .nil, trivial⟩, trivial⟩)
   refine AW.ret ?_
   cases h; refine nz ?_; exact .same _
  refine sK h (fun hb21 h => ?_) fun hb21 h => ?_
  ·refine cv h r08_Equal_ok (fun r22 hx23 h => ?_) (hs := by exact ⟨.same _, .aggL ⟨.same _, .same _, .same _, .nil, .nil, .nil, trivial⟩, trivial⟩)
   refine AW.ret ?_
   cases h; refine nz ?_; exact .same _
  refine AW.ret ?_
  cases h; refine nz ?_; exact .same _
 refine AW.ret ?_
 cases h; refine nz ?_; exact .same _
/-! ### isochrone/isochroneref11.Modal -/
def r11_Modal_body (K : Nat) (self29 : NodeA → Option Bool) (p0 : NodeA) : Option Bool := ((
  ((
   if (p0.op == (33 : Int)) then
    some true
   else
    if (p0.op == (34 : Int)) then
     some true
    else
     if (p0.op == (35 : Int)) then
      some true
     else
      if (p0.op == (36 : Int)) then
       some true
      else
       some (p0.op == (39 : Int))) : Option Bool).bind (fun v3_0 =>
  if v3_0 then
   outM (
    some true)
  else
   some (.go ()))) : Option (Out Unit _)).bind (Out.fin fun _ =>
 ((iter (S := Int) (R := Out Unit _) K (fun again i10_0 =>
  if (decide (i10_0 < (p0.kids.length : Int))) then
   (idx p0.kids i10_0).bind fun x15 =>
   (self29 (x15)).bind fun r17 =>
   if r17 then
    outM (
     some true)
   else
    again (IntKind.wrap .i64 (i10_0 + (1 : Int)))
  else
   some (.go ())) (0 : Int)) : Option (Out Unit _)).bind (Out.fin fun _ =>
 some false))
set_option maxHeartbeats 4000000 in
theorem r11_Modal_step (K : Nat) (self29 : NodeA → Option Bool) (hself29 : ∀ (q : NodeA) (r : Bool), self29 q = some r → Cn Tryz.prog 29 [aggV q.enc] (.d (.val (.bool r)))) (p0 : NodeA) (r : Bool) (h : r11_Modal_body K self29 p0 = some r) : Cn Tryz.prog 29 [aggV p0.enc] (.d (.val (.bool r))) := by
 refine Cn.oz Tryz.func29 Tryz.call29 Tryz.ntmps29 Tryz.results29 fun hfit => ?_
 unfold r11_Modal_body at h
 refine AW.kr [] [0] ?_
 refine AW.ks [0] [1] ?_
 refine AW.jo h (fun _ => [(1, .ptr 0 6 0 0)]) (fun _ => [vE p0.enc]) (fun oJ2 h hJ2 => ?_) fun ⟨⟩ h => ?_
 ·refine AW.jn h (fun v3_0 => [(1, .ptr 0 6 0 0), (26, vB v3_0)]) (fun v3_0 => [vE p0.enc]) (fun oJ4 h => ?_) fun v3_0 h => ?_
  ·refine AW.rp ?_
   refine sK h (fun hb5 h => ?_) fun hb5 h => ?_
   ·exact ja [0] h
   refine sK h (fun hb6 h => ?_) fun hb6 h => ?_
   ·exact ja [0] h
   refine sK h (fun hb7 h => ?_) fun hb7 h => ?_
   ·exact ja [0] h
   refine sK h (fun hb8 h => ?_) fun hb8 h => ?_
   ·exact ja [0] h
   exact ja [0] h
  refine AW.tk h (fun hb9 h => ?_) fun hb9 h => ?_
  ·refine AW.ro ?_
   refine AW.ret ?_
   have h := up h hJ2
   cases h; refine nz ?_; exact .same _
  exact jo [0] h
 refine AW.one ?_
 refine AW.ro ?_
 refine AW.ks [0] [1, 3] ?_
 refine AW.lp h (fun _ => []) (fun _ => []) (fun i10_0 => [(1, .ptr 0 6 0 0), (3, vI i10_0)]) (fun i10_0 => [vE p0.enc]) [0] (fun oJ13 hJ13 again i10_0 h => ?_) fun ⟨⟩ h => ?_
 ·refine AW.one ?_
  refine AW.ro ?_
  refine AW.ks [0] [1, 3, 31] ?_
  refine AW.tt h (fun hb14 h => ?_) fun hb14 h => ?_
  ·refine AW.sk ?_
   refine AW.ks [0] [1, 3] ?_
   refine AW.one ?_
   refine AW.block ?_
   refine AW.ro ?_
   refine bx h fun x15 h0 h1 h => ?_
   refine cm h (hself29 _ _) fun r17 hx18 h => ?_
   refine AW.ks [0] [1, 3, 39] ?_
   refine AW.tk h (fun hb19 h => ?_) fun hb19 h => ?_
   ·refine AW.ro ?_
    refine AW.ret ?_
    have h := up h hJ13
    cases h; refine nz ?_; exact .same _
   refine AW.ks [0] [1, 3] ?_
   refine AW.rp ?_
   exact na [0] h
  refine AW.ex ?_
  exact jo [] h
 refine AW.kr [] [] ?_
 refine AW.ret ?_
 cases h; refine nz ?_; exact .same _
def r11_Modal (K : Nat) (p0 : NodeA) : Option Bool := iter K (fun self q => r11_Modal_body K self q) p0
theorem key_r11_Modal {K : Nat} (k : Nat) : (∀ (q : NodeA) (r : Bool), iter k (fun self q => r11_Modal_body K self q) q = some r → Cn Tryz.prog 29 [aggV q.enc] (.d (.val (.bool r)))) := by
 induction k with
 | zero => exact fun q r h => by cases h
 | succ k ih => exact fun q r h => r11_Modal_step K _ ih q r h
theorem r11_Modal_ok {K : Nat} {p0 : NodeA} {r : Bool} (h : r11_Modal K p0 = some r) : Cn Tryz.prog 29 [aggV p0.enc] (.d (.val (.bool r))) := (key_r11_Modal K) p0 r h
/-! ### isochrone/isochroneref11.symbols -/
def r11_symbols_body (K : Nat) (self60 : NodeA → Option Bool) (p0 : NodeA) : Option Bool := (r10_Symbol K p0).bind fun r1 =>
 if r1 then
  some true
 else
  ((iter (S := Int) (R := Out Unit _) K (fun again i4_0 =>
   if (decide (i4_0 < (p0.kids.length : Int))) then
    (idx p0.kids i4_0).bind fun x9 =>
    (self60 (x9)).bind fun r11 =>
    if r11 then
     outM (
      some true)
    else
     again (IntKind.wrap .i64 (i4_0 + (1 : Int)))
   else
    some (.go ())) (0 : Int)) : Option (Out Unit _)).bind (Out.fin fun _ =>
  some false)
set_option maxHeartbeats 4000000 in
theorem r11_symbols_step (K : Nat) (self60 : NodeA → Option Bool) (hself60 : ∀ (q : NodeA) (r : Bool), self60 q = some r → Cn Tryz.prog 60 [aggV q.enc] (.d (.val (.bool r)))) (p0 : NodeA) (r : Bool) (h : r11_symbols_body K self60 p0 = some r) : Cn Tryz.prog 60 [aggV p0.enc] (.d (.val (.bool r))) := by
 refine Cn.oz Tryz.func60 Tryz.call60 Tryz.ntmps60 Tryz.results60 fun hfit => ?_
 unfold r11_symbols_body at h
 refine AW.kr [] [0] ?_
 refine AW.ks [0] [1] ?_
 refine AW.one ?_
 refine AW.ro ?_
 refine cm h r10_Symbol_ok fun r1 hx2 h => ?_
 refine AW.ks [0] [1, 5] ?_
 refine AW.tk h (fun hb3 h => ?_) fun hb3 h => ?_
 ·refine AW.ro ?_
  refine AW.ret ?_
  cases h; refine nz ?_; exact .same _
 refine AW.ks [0] [1] ?_
 refine AW.one ?_
 refine AW.ro ?_
 refine AW.ks [0] [1, 3] ?_
 refine AW.lp h (fun _ => []) (fun _ => []) (fun i4_0 => [(1, .ptr 0 6 0 0), (3, vI i4_0)]) (fun i4_0 => [vE p0.enc]) [0] (fun oJ7 hJ7 again i4_0 h => ?_) fun ⟨⟩ h => ?_
 ·refine AW.one ?_
  refine AW.ro ?_
  refine AW.ks [0] [1, 3, 10] ?_
  refine AW.tt h (fun hb8 h => ?_) fun hb8 h => ?_
  ·refine AW.sk ?_
   refine AW.ks [0] [1, 3] ?_
   refine AW.one ?_
   refine AW.block ?_
   refine AW.ro ?_
   refine bx h fun x9 h0 h1 h => ?_
   refine cm h (hself60 _ _) fun r11 hx12 h => ?_
   refine AW.ks [0] [1, 3, 18] ?_
   refine AW.tk h (fun hb13 h => ?_) fun hb13 h => ?_
   ·refine AW.ro ?_
    refine AW.ret ?_
    have h := up h hJ7
    cases h; refine nz ?_; exact .same _
   refine AW.ks [0] [1, 3] ?_
   refine AW.rp ?_
   exact na [0] h
  refine AW.ex ?_
  exact jo [] h
 refine AW.kr [] [] ?_
 refine AW.ret ?_
 cases h; refine nz ?_; exact .same _
def r11_symbols (K : Nat) (p0 : NodeA) : Option Bool := iter K (fun self q => r11_symbols_body K self q) p0
theorem key_r11_symbols {K : Nat} (k : Nat) : (∀ (q : NodeA) (r : Bool), iter k (fun self q => r11_symbols_body K self q) q = some r → Cn Tryz.prog 60 [aggV q.enc] (.d (.val (.bool r)))) := by
 induction k with
 | zero => exact fun q r h => by cases h
 | succ k ih => exact fun q r h => r11_symbols_step K _ ih q r h
theorem r11_symbols_ok {K : Nat} {p0 : NodeA} {r : Bool} (h : r11_symbols K p0 = some r) : Cn Tryz.prog 60 [aggV p0.enc] (.d (.val (.bool r))) := (key_r11_symbols K) p0 r h
structure Api_PairA where
 what : NodeA
 with_ : NodeA
 rates : List NodeA
def Api_PairA.enc (x : Api_PairA) : List D := [.val (.int .i64 x.what.op), .val (.string x.what.name), .val (.bool x.what.num.neg), slD u32V x.what.num.num, slD u32V x.what.num.den, slD NodeA.enc x.what.kids, .val (.int .i64 x.with_.op), .val (.string x.with_.name), .val (.bool x.with_.num.neg), slD u32V x.with_.num.num, slD u32V x.with_.num.den, slD NodeA.enc x.with_.kids, slD NodeA.enc x.rates]
theorem Api_PairA.enc_eta (x : Api_PairA) : x.enc = [.val (.int .i64 x.what.op), .val (.string x.what.name), .val (.bool x.what.num.neg), slD u32V x.what.num.num, slD u32V x.what.num.den, slD NodeA.enc x.what.kids, .val (.int .i64 x.with_.op), .val (.string x.with_.name), .val (.bool x.with_.num.neg), slD u32V x.with_.num.num, slD u32V x.with_.num.den, slD NodeA.enc x.with_.kids, slD NodeA.enc x.rates] := rfl
attribute [go_sem] Api_PairA.enc_eta
/-! ### isochrone/isochroneref11.Check -/
def r11_Check (K : Nat) (p0 : List Api_PairA) : Option Int := if (decide ((40 : Int) < (p0.length : Int))) then
  some (3 : Int)
 else
  ((iter (S := Int) (R := Out Unit _) K (fun again i2_0 =>
   if (decide (i2_0 < (p0.length : Int))) then
    ((
     (idx p0 i2_0).bind fun x9 =>
     ((
      ((
       (r11_IsSymbol K x9.what).bind fun r15 =>
       if (!r15) then
        some true
       else
        some (decide ((0 : Int) < (x9.rates.length : Int)))) : Option Bool).bind (fun v13_0 =>
      if v13_0 then
       outM (
        outM (
         outM (
          some (3 : Int))))
      else
       some (.go ()))) : Option (Out Unit _)).bind (Out.fin fun _ =>
     ((iter (S := Int) (R := Out Unit _) K (fun again i19_0 =>
      if (decide (i19_0 < i2_0)) then
       (idx p0 i19_0).bind fun x24 =>
       (r08_Equal K x9.what x24.what).bind fun r26 =>
       if r26 then
        outM (
         outM (
          outM (
           some (3 : Int))))
       else
        again (IntKind.wrap .i64 (i19_0 + (1 : Int)))
      else
       some (.go ())) (0 : Int)) : Option (Out Unit _)).bind (Out.fin fun _ =>
     ((
      ((
       if (x9.what.op == (10 : Int)) then
        some (x9.what.op == (10 : Int))
       else
        some (x9.what.op == (11 : Int))) : Option Bool).bind (fun v31_0 =>
      if v31_0 then
       (r08_Check K x9.with_ (1 : Int)).bind fun r35 =>
       if (r35 != (0 : Int)) then
        outM (
         outM (
          outM (
           some (3 : Int))))
       else
        some (.go ())
      else
       ((
        if (x9.what.op == (37 : Int)) then
         some (x9.what.op == (37 : Int))
        else
         some (x9.what.op == (38 : Int))) : Option Bool).bind (fun v38_0 =>
       if v38_0 then
        ((
         (r08_Check K x9.with_ (2 : Int)).bind fun r44 =>
         if (r44 != (0 : Int)) then
          some true
         else
          (r11_Modal K x9.with_).bind fun r47 =>
          some r47) : Option Bool).bind (fun v42_0 =>
        if v42_0 then
         outM (
          outM (
           outM (
            some (3 : Int))))
        else
         some (.go ()))
       else
        outM (
         outM (
          outM (
           some (3 : Int))))))) : Option (Out Unit _)).bind (Out.fin fun _ =>
     ((
      (r11_symbols K x9.with_).bind fun r52 =>
      if r52 then
       some true
      else
       (r10_Occurs K x9.with_ (12 : Int)).bind fun r55 =>
       if r55 then
        some true
       else
        (r10_Occurs K x9.with_ (3 : Int)).bind fun r58 =>
        if r58 then
         some true
        else
         if ((x9.what.kids.length : Int) == (0 : Int)) then
          (r10_Occurs K x9.with_ (13 : Int)).bind fun r62 =>
          some r62
         else
          some false) : Option Bool).bind (fun v50_0 =>
     if v50_0 then
      outM (
       outM (
        some (3 : Int)))
     else
      some (.go ())))))) : Option (Out Unit _)).bind (Out.fin fun _ =>
    again (IntKind.wrap .i64 (i2_0 + (1 : Int))))
   else
    some (.go ())) (0 : Int)) : Option (Out Unit _)).bind (Out.fin fun _ =>
  some (0 : Int))
set_option maxHeartbeats 4000000 in
theorem r11_Check_ok {K : Nat} {p0 : List Api_PairA} {r : Int} (h : r11_Check K p0 = some r) : Cn Tryz.prog 27 [.d (slD Api_PairA.enc p0)] (.d (.val (.int .i64 r))) := by
 refine Cn.oz Tryz.func27 Tryz.call27 Tryz.ntmps27 Tryz.results27 fun hfit => ?_
 unfold r11_Check at h
 refine AW.kr [] [0] ?_
 refine AW.ks [] [0] ?_
 refine AW.one ?_
 refine AW.ro ?_
 refine AW.ks [] [0, 9] ?_
 refine AW.tk h (fun hb1 h => ?_) fun hb1 h => ?_
 ·refine AW.ro ?_
  refine AW.ret ?_
  cases h; refine nz ?_; exact .same _
 refine AW.ks [] [0] ?_
 refine AW.one ?_
 refine AW.ro ?_
 refine AW.ks [] [0, 3] ?_
 refine AW.lp h (fun _ => []) (fun _ => []) (fun i2_0 => [(0, vL Api_PairA.enc p0), (3, vI i2_0)]) (fun i2_0 => []) [] (fun oJ5 hJ5 again i2_0 h => ?_) fun ⟨⟩ h => ?_
 ·refine AW.one ?_
  refine AW.ro ?_
  refine AW.ks [] [0, 3, 13] ?_
  refine AW.tt h (fun hb6 h => ?_) fun hb6 h => ?_
  ·refine AW.sk ?_
   refine AW.ks [] [0, 3] ?_
   refine AW.jo h (fun _ => [(0, vL Api_PairA.enc p0), (3, vI i2_0)]) (fun _ => []) (fun oJ8 h hJ8 => ?_) fun ⟨⟩ h => ?_
   ·refine AW.block ?_
    refine AW.ro ?_
    refine bx h fun x9 h0 h1 h => ?_
    refine AW.kr [4] [0, 3, 4] ?_
    refine AW.ks [0, 3] [0, 3, 4, 5] ?_
    refine AW.jo h (fun _ => [(0, vL Api_PairA.enc p0), (3, vI i2_0), (4, .ptr 0 13 0 0), (5, .ptr 1 6 0 0)]) (fun _ => [vE x9.enc, vE x9.what.enc]) (fun oJ12 h hJ12 => ?_) fun ⟨⟩ h => ?_
    ·refine AW.jn h (fun v13_0 => [(0, vL Api_PairA.enc p0), (3, vI i2_0), (4, .ptr 0 13 0 0), (5, .ptr 1 6 0 0), (30, vB v13_0)]) (fun v13_0 => [vE x9.enc, vE x9.what.enc]) (fun oJ14 h => ?_) fun v13_0 h => ?_
     ·refine AW.rp ?_
      refine cm h r11_IsSymbol_ok fun r15 hx16 h => ?_
      refine sK h (fun hb17 h => ?_) fun hb17 h => ?_
      ·exact ja [0, 1] h
      exact ja [0, 1] h
     refine AW.tk h (fun hb18 h => ?_) fun hb18 h => ?_
     ·refine AW.ro ?_
      refine AW.ret ?_
      have h := up h hJ12
      have h := up h hJ8
      have h := up h hJ5
      cases h; refine nz ?_; exact .same _
     exact jo [0, 1] h
    refine AW.one ?_
    refine AW.ro ?_
    refine AW.ks [0, 1] [0, 3, 4, 5, 6] ?_
    refine AW.lp h (fun _ => [(0, vL Api_PairA.enc p0), (3, vI i2_0), (4, .ptr 0 13 0 0), (5, .ptr 1 6 0 0)]) (fun _ => [vE x9.enc, vE x9.what.enc]) (fun i19_0 => [(0, vL Api_PairA.enc p0), (3, vI i2_0), (4, .ptr 0 13 0 0), (5, .ptr 1 6 0 0), (6, vI i19_0)]) (fun i19_0 => [vE x9.enc, vE x9.what.enc]) [0, 1] (fun oJ22 hJ22 again i19_0 h => ?_) fun ⟨⟩ h => ?_
    ·refine AW.one ?_
     refine AW.ro ?_
     refine AW.ks [0, 1] [0, 3, 4, 5, 6, 33] ?_
     refine AW.tt h (fun hb23 h => ?_) fun hb23 h => ?_
     ·refine AW.sk ?_
      refine AW.ks [0, 1] [0, 3, 4, 5, 6] ?_
      refine AW.one ?_
      refine AW.block ?_
      refine AW.ro ?_
      refine bx h fun x24 h0 h1 h => ?_
      refine pm h r08_Equal_ok fun r26 hx27 h => ?_
      refine AW.ks [0, 1] [0, 3, 4, 5, 6, 42] ?_
      refine AW.tk h (fun hb28 h => ?_) fun hb28 h => ?_
      ·refine AW.ro ?_
       refine AW.ret ?_
       have h := up h hJ22
       have h := up h hJ8
       have h := up h hJ5
       cases h; refine nz ?_; exact .same _
      refine AW.ks [0, 1] [0, 3, 4, 5, 6] ?_
      refine AW.rp ?_
      exact na [0, 1] h
     refine AW.ex ?_
     exact jo [0, 1] h
    refine AW.ks [0, 1] [0, 3, 4, 5] ?_
    refine AW.jo h (fun _ => [(0, vL Api_PairA.enc p0), (3, vI i2_0), (4, .ptr 0 13 0 0), (5, .ptr 1 6 0 0)]) (fun _ => [vE x9.enc, vE x9.what.enc]) (fun oJ30 h hJ30 => ?_) fun ⟨⟩ h => ?_
    ·refine AW.ro ?_
     refine AW.ks [0, 1] [0, 3, 4, 5, 44] ?_
     refine AW.block ?_
     refine AW.jn h (fun v31_0 => [(0, vL Api_PairA.enc p0), (3, vI i2_0), (4, .ptr 0 13 0 0), (5, .ptr 1 6 0 0), (44, vI x9.what.op), (45, vB v31_0)]) (fun v31_0 => [vE x9.enc, vE x9.what.enc]) (fun oJ32 h => ?_) fun v31_0 h => ?_
     ·refine AW.ro ?_
      refine AW.ks [0, 1] [0, 3, 4, 5, 44, 45] ?_
      refine AW.tt h (fun hb33 h => ?_) fun hb33 h => ?_
      ·refine AW.sk ?_
       exact ja [0, 1] h
      refine AW.rp ?_
      exact ja [0, 1] h
     refine AW.tt h (fun hb34 h => ?_) fun hb34 h => ?_
     ·refine AW.ro ?_
      refine cm h r08_Check_ok fun r35 hx36 h => ?_
      refine AW.ks [0, 1] [0, 3, 4, 5, 51] ?_
      refine AW.tk h (fun hb37 h => ?_) fun hb37 h => ?_
      ·refine AW.ro ?_
       refine AW.ret ?_
       have h := up h hJ30
       have h := up h hJ8
       have h := up h hJ5
       cases h; refine nz ?_; exact .same _
      exact jo [0, 1] h
     refine AW.jn h (fun v38_0 => [(0, vL Api_PairA.enc p0), (3, vI i2_0), (4, .ptr 0 13 0 0), (5, .ptr 1 6 0 0), (52, vB v38_0)]) (fun v38_0 => [vE x9.enc, vE x9.what.enc]) (fun oJ39 h => ?_) fun v38_0 h => ?_
     ·refine AW.ro ?_
      refine AW.ks [0, 1] [0, 3, 4, 5, 44, 52] ?_
      refine AW.tt h (fun hb40 h => ?_) fun hb40 h => ?_
      ·refine AW.sk ?_
       exact ja [0, 1] h
      refine AW.rp ?_
      exact ja [0, 1] h
     refine AW.tt h (fun hb41 h => ?_) fun hb41 h => ?_
     ·refine AW.jn h (fun v42_0 => [(0, vL Api_PairA.enc p0), (3, vI i2_0), (4, .ptr 0 13 0 0), (5, .ptr 1 6 0 0), (63, vB v42_0)]) (fun v42_0 => [vE x9.enc, vE x9.what.enc]) (fun oJ43 h => ?_) fun v42_0 h => ?_
      ·refine AW.rp ?_
       refine cm h r08_Check_ok fun r44 hx45 h => ?_
       refine sK h (fun hb46 h => ?_) fun hb46 h => ?_
       ·exact ja [0, 1] h
       refine cm h r11_Modal_ok fun r47 hx48 h => ?_
       exact ja [0, 1] h
      refine AW.tk h (fun hb49 h => ?_) fun hb49 h => ?_
      ·refine AW.ro ?_
       refine AW.ret ?_
       have h := up h hJ30
       have h := up h hJ8
       have h := up h hJ5
       cases h; refine nz ?_; exact .same _
      exact jo [0, 1] h
     refine AW.ro ?_
     refine AW.ret ?_
     have h := up h hJ30
     have h := up h hJ8
     have h := up h hJ5
     cases h; refine nz ?_; exact .same _
    refine AW.jn h (fun v50_0 => [(0, vL Api_PairA.enc p0), (3, vI i2_0), (87, vB v50_0)]) (fun v50_0 => []) (fun oJ51 h => ?_) fun v50_0 h => ?_
    ·refine AW.rp ?_
     refine cm h r11_symbols_ok fun r52 hx53 h => ?_
     refine sK h (fun hb54 h => ?_) fun hb54 h => ?_
     ·exact ja [] h
     refine cm h r10_Occurs_ok fun r55 hx56 h => ?_
     refine sK h (fun hb57 h => ?_) fun hb57 h => ?_
     ·exact ja [] h
     refine cm h r10_Occurs_ok fun r58 hx59 h => ?_
     refine sK h (fun hb60 h => ?_) fun hb60 h => ?_
     ·exact ja [] h
     refine sK h (fun hb61 h => ?_) fun hb61 h => ?_
     ·refine cm h r10_Occurs_ok fun r62 hx63 h => ?_
      exact ja [] h
     exact ja [] h
    refine AW.tk h (fun hb64 h => ?_) fun hb64 h => ?_
    ·refine AW.ro ?_
     refine AW.ret ?_
     have h := up h hJ8
     have h := up h hJ5
     cases h; refine nz ?_; exact .same _
    exact jo [] h
   refine AW.rp ?_
   exact na [] h
  refine AW.ex ?_
  exact jo [] h
 refine AW.kr [] [] ?_
 refine AW.ret ?_
 cases h; refine nz ?_; exact .same _
/-! ### isochrone/isochroneref10.Head -/
def r10_Head (K : Nat) (p0 : NodeA) : Option NodeA := ((
  if (decide ((0 : Int) < (p0.kids.length : Int))) then
   some [(NodeA.mk (13 : Int) (⟨#[]⟩ : ByteArray) (RatA.mk false [] []) [])]
  else
   some []) : Option (List NodeA)).bind (fun v1_0 =>
 some (NodeA.mk p0.op p0.name (RatA.mk false [] []) v1_0))
set_option maxHeartbeats 4000000 in
theorem r10_Head_ok {K : Nat} {p0 : NodeA} {r : NodeA} (h : r10_Head K p0 = some r) : Cn Tryz.prog 97 [aggV p0.enc] (aggV r.enc) := by
 refine Cn.oz Tryz.func97 Tryz.call97 Tryz.ntmps97 Tryz.results97 fun hfit => ?_
 unfold r10_Head at h
 refine AW.kr [] [0] ?_
 refine AW.kr [0, 1] [1, 2] ?_
 refine AW.ks [0, 1, 7] [1, 2, 3] ?_
 refine AW.jn h (fun v1_0 => [(2, .ptr 0 6 0 0), (3, .ptr 1 6 0 0)]) (fun v1_0 => [some ⟨6, [[vI (0 : Int), vS (⟨#[]⟩ : ByteArray), vB false, .d (.val (.slice none 0 0)), .d (.val (.slice none 0 0)), .d (.val (.slice none 0 0))]]⟩, some ⟨6, [[vI p0.op, vS p0.name, vB false, .d (.val (.slice none 0 0)), .d (.val (.slice none 0 0)), vL NodeA.enc v1_0]]⟩]) (fun oJ2 h => ?_) fun v1_0 h => ?_
 ·refine AW.ro ?_
  refine AW.ks [1, 2] [2, 3, 12] ?_
  refine AW.tk h (fun hb3 h => ?_) fun hb3 h => ?_
  ·refine AW.rp ?_
   refine JoinQ.mkS [(NodeA.mk (13 : Int) (⟨#[]⟩ : ByteArray) (RatA.mk false [] []) [])] [0, 1] [] [] [(1, ⟨6, [[.d (.val (.int .i64 p0.op)), .d (.val (.string p0.name)), .d (.val (.bool false)), .d (.val (.slice none 0 0)), .d (.val (.slice none 0 0)), .d (slD NodeA.enc [(NodeA.mk (13 : Int) (⟨#[]⟩ : ByteArray) (RatA.mk false [] []) [])])]]⟩)] (Option.some.inj h) (by simp only [go_sem, reduceEqDiff, reduceAdd, reduceSub, reduceMul, reduceLeDiff, reduceLT, Nat.reduceBEq, reduceIte, sealL_cons, sealL_nil]) (by simp only [go_sem, reduceEqDiff, reduceAdd, reduceSub, reduceMul, reduceLeDiff, reduceLT, Nat.reduceBEq, reduceIte, sealH_cons, sealH_nil]; exact ⟨⟨.same _, .same _, .same _, .same _, .same _, .d (.dn (.rows (by (try simp only [slD, NodeA.enc_eta, RatA.enc_eta, NodeA.op_mk, NodeA.name_mk, NodeA.num_mk, NodeA.kids_mk, aggV, i64V, u32V, strV, List.map_cons, List.map_nil]); exact ⟨⟨.refl _, .refl _, .refl _, .nil _ _, .nil _ _, .nil _ _, trivial⟩, trivial⟩))), trivial⟩, trivial⟩) (by simp only [go_sem, reduceEqDiff, reduceAdd, reduceSub, reduceMul, reduceLeDiff, reduceLT, Nat.reduceBEq, reduceIte])
  refine JoinQ.mkS [] [0, 1] [] [] [(1, ⟨6, [[.d (.val (.int .i64 p0.op)), .d (.val (.string p0.name)), .d (.val (.bool false)), .d (.val (.slice none 0 0)), .d (.val (.slice none 0 0)), .d (slD NodeA.enc [])]]⟩)] (Option.some.inj h) (by simp only [go_sem, reduceEqDiff, reduceAdd, reduceSub, reduceMul, reduceLeDiff, reduceLT, Nat.reduceBEq, reduceIte, sealL_cons, sealL_nil]) (by simp only [go_sem, reduceEqDiff, reduceAdd, reduceSub, reduceMul, reduceLeDiff, reduceLT, Nat.reduceBEq, reduceIte, sealH_cons, sealH_nil]; exact ⟨⟨.same _, .same _, .same _, .same _, .same _, .nil, trivial⟩, trivial⟩) (by simp only [go_sem, reduceEqDiff, reduceAdd, reduceSub, reduceMul, reduceLeDiff, reduceLT, Nat.reduceBEq, reduceIte])
 refine AW.ro ?_
 refine AW.ret ?_
 cases h; refine nz ?_; exact .aggL ⟨.same _, .same _, .same _, .nil, .nil, .same _, trivial⟩
/-! ### isochrone/isochroneref11.Meaning -/
def r11_Meaning (K : Nat) (p0 : NodeA) (p1 : List Api_PairA) : Option (NodeA × Bool) := (r10_Head K p0).bind fun r1 =>
 ((iter (S := Int) (R := Out Unit _) K (fun again i3_0 =>
  if (decide (i3_0 < (p1.length : Int))) then
   (idx p1 i3_0).bind fun x8 =>
   (r08_Equal K x8.what r1).bind fun r10 =>
   if r10 then
    outM (
     some (x8.with_, true))
   else
    again (IntKind.wrap .i64 (i3_0 + (1 : Int)))
  else
   some (.go ())) (0 : Int)) : Option (Out Unit _)).bind (Out.fin fun _ =>
 some ((NodeA.mk (0 : Int) (⟨#[]⟩ : ByteArray) (RatA.mk false [] []) []), false))
set_option maxHeartbeats 4000000 in
theorem r11_Meaning_ok {K : Nat} {p0 : NodeA} {p1 : List Api_PairA} {r : NodeA × Bool} (h : r11_Meaning K p0 p1 = some r) : Cn Tryz.prog 63 [aggV p0.enc, .d (slD Api_PairA.enc p1)] (.tup [aggV r.1.enc, .d (.val (.bool r.2))]) := by
 refine Cn.oz Tryz.func63 Tryz.call63 Tryz.ntmps63 Tryz.results63 fun hfit => ?_
 unfold r11_Meaning at h
 refine AW.kr [] [0, 1] ?_
 refine AW.kr [0, 1] [1, 2, 4] ?_
 refine cm h r10_Head_ok fun r1 hx2 h => ?_
 refine AW.ks [1, 4] [1, 4, 6] ?_
 refine AW.one ?_
 refine AW.ro ?_
 refine AW.ks [0, 1] [1, 4, 6, 7] ?_
 refine AW.lp h (fun _ => [(4, .ptr 0 6 0 0)]) (fun _ => [some ⟨6, [[vI (0 : Int), vS (⟨#[]⟩ : ByteArray), vB false, .d (.val (.slice none 0 0)), .d (.val (.slice none 0 0)), .d (.val (.slice none 0 0))]]⟩]) (fun i3_0 => [(1, vL Api_PairA.enc p1), (4, .ptr 0 6 0 0), (6, .ptr 1 6 0 0), (7, vI i3_0)]) (fun i3_0 => [some ⟨6, [[vI (0 : Int), vS (⟨#[]⟩ : ByteArray), vB false, .d (.val (.slice none 0 0)), .d (.val (.slice none 0 0)), .d (.val (.slice none 0 0))]]⟩, vE r1.enc]) [0, 1] (fun oJ6 hJ6 again i3_0 h => ?_) fun ⟨⟩ h => ?_
 ·refine AW.one ?_
  refine AW.ro ?_
  refine AW.ks [0, 1] [1, 4, 6, 7, 13] ?_
  refine AW.tt h (fun hb7 h => ?_) fun hb7 h => ?_
  ·refine AW.sk ?_
   refine AW.ks [0, 1] [1, 4, 6, 7] ?_
   refine AW.one ?_
   refine AW.block ?_
   refine AW.ro ?_
   refine bx h fun x8 h0 h1 h => ?_
   refine pm h r08_Equal_ok fun r10 hx11 h => ?_
   refine AW.ks [0, 1] [1, 4, 6, 7, 22] ?_
   refine AW.tk h (fun hb12 h => ?_) fun hb12 h => ?_
   ·refine AW.ro ?_
    refine AW.ret ?_
    have h := up h hJ6
    cases h; refine nz ?_; exact .same _
   refine AW.ks [0, 1] [1, 4, 6, 7] ?_
   refine AW.rp ?_
   exact na [0, 1] h
  refine AW.ex ?_
  exact jo [0] h
 refine AW.kr [0] [4] ?_
 refine AW.ret ?_
 cases h; refine nz ?_; exact .tupL ⟨.aggL ⟨.same _, .same _, .same _, .nil, .nil, .nil, trivial⟩, .same _, trivial⟩
/-! ### isochrone/isochroneref11.Unknown -/
def r11_Unknown_body (K : Nat) (self28 : (NodeA × (List Api_PairA)) → Option Bool) (p0 : NodeA) (p1 : List Api_PairA) : Option Bool := if (p0.op == (13 : Int)) then
  some true
 else
  ((
   (r10_Symbol K p0).bind fun r4 =>
   if r4 then
    (r11_Meaning K p0 p1).bind fun r7 =>
    if (!r7.2) then
     outM (
      some true)
    else
     some (.go ())
   else
    some (.go ())) : Option (Out Unit _)).bind (Out.fin fun _ =>
  ((iter (S := Int) (R := Out Unit _) K (fun again i10_0 =>
   if (decide (i10_0 < (p0.kids.length : Int))) then
    (idx p0.kids i10_0).bind fun x15 =>
    (self28 (x15, p1)).bind fun r17 =>
    if r17 then
     outM (
      some true)
    else
     again (IntKind.wrap .i64 (i10_0 + (1 : Int)))
   else
    some (.go ())) (0 : Int)) : Option (Out Unit _)).bind (Out.fin fun _ =>
  some false))
set_option maxHeartbeats 4000000 in
theorem r11_Unknown_step (K : Nat) (self28 : (NodeA × (List Api_PairA)) → Option Bool) (hself28 : ∀ (q : NodeA × (List Api_PairA)) (r : Bool), self28 q = some r → Cn Tryz.prog 28 [aggV q.1.enc, .d (slD Api_PairA.enc q.2)] (.d (.val (.bool r)))) (p0 : NodeA) (p1 : List Api_PairA) (r : Bool) (h : r11_Unknown_body K self28 p0 p1 = some r) : Cn Tryz.prog 28 [aggV p0.enc, .d (slD Api_PairA.enc p1)] (.d (.val (.bool r))) := by
 refine Cn.oz Tryz.func28 Tryz.call28 Tryz.ntmps28 Tryz.results28 fun hfit => ?_
 unfold r11_Unknown_body at h
 refine AW.kr [] [0, 1] ?_
 refine AW.ks [0] [1, 2] ?_
 refine AW.one ?_
 refine AW.ro ?_
 refine AW.ks [0] [1, 2, 10] ?_
 refine AW.tk h (fun hb1 h => ?_) fun hb1 h => ?_
 ·refine AW.ro ?_
  refine AW.ret ?_
  cases h; refine nz ?_; exact .same _
 refine AW.ks [0] [1, 2] ?_
 refine AW.jo h (fun _ => [(1, vL Api_PairA.enc p1), (2, .ptr 0 6 0 0)]) (fun _ => [vE p0.enc]) (fun oJ3 h hJ3 => ?_) fun ⟨⟩ h => ?_
 ·refine AW.ro ?_
  refine cm h r10_Symbol_ok fun r4 hx5 h => ?_
  refine AW.ks [0] [1, 2, 12] ?_
  refine AW.tk h (fun hb6 h => ?_) fun hb6 h => ?_
  ·refine AW.ro ?_
   refine cm h r11_Meaning_ok fun r7 hx8 h => ?_
   refine AW.kr [0] [1, 2, 6] ?_
   refine AW.ks [0] [1, 2, 20] ?_
   refine AW.tk h (fun hb9 h => ?_) fun hb9 h => ?_
   ·refine AW.ro ?_
    refine AW.ret ?_
    have h := up h hJ3
    cases h; refine nz ?_; exact .same _
   exact jo [0] h
  exact jo [0] h
 refine AW.one ?_
 refine AW.ro ?_
 refine AW.ks [0] [1, 2, 7] ?_
 refine AW.lp h (fun _ => []) (fun _ => []) (fun i10_0 => [(1, vL Api_PairA.enc p1), (2, .ptr 0 6 0 0), (7, vI i10_0)]) (fun i10_0 => [vE p0.enc]) [0] (fun oJ13 hJ13 again i10_0 h => ?_) fun ⟨⟩ h => ?_
 ·refine AW.one ?_
  refine AW.ro ?_
  refine AW.ks [0] [1, 2, 7, 25] ?_
  refine AW.tt h (fun hb14 h => ?_) fun hb14 h => ?_
  ·refine AW.sk ?_
   refine AW.ks [0] [1, 2, 7] ?_
   refine AW.one ?_
   refine AW.block ?_
   refine AW.ro ?_
   refine bx h fun x15 h0 h1 h => ?_
   refine cm h (hself28 _ _) fun r17 hx18 h => ?_
   refine AW.ks [0] [1, 2, 7, 34] ?_
   refine AW.tk h (fun hb19 h => ?_) fun hb19 h => ?_
   ·refine AW.ro ?_
    refine AW.ret ?_
    have h := up h hJ13
    cases h; refine nz ?_; exact .same _
   refine AW.ks [0] [1, 2, 7] ?_
   refine AW.rp ?_
   exact na [0] h
  refine AW.ex ?_
  exact jo [] h
 refine AW.kr [] [] ?_
 refine AW.ret ?_
 cases h; refine nz ?_; exact .same _
def r11_Unknown (K : Nat) (p0 : NodeA) (p1 : List Api_PairA) : Option Bool := iter K (fun self q => r11_Unknown_body K self q.1 q.2) (p0, p1)
theorem key_r11_Unknown {K : Nat} (k : Nat) : (∀ (q : NodeA × (List Api_PairA)) (r : Bool), iter k (fun self q => r11_Unknown_body K self q.1 q.2) q = some r → Cn Tryz.prog 28 [aggV q.1.enc, .d (slD Api_PairA.enc q.2)] (.d (.val (.bool r)))) := by
 induction k with
 | zero => exact fun q r h => by cases h
 | succ k ih => exact fun q r h => r11_Unknown_step K _ ih q.1 q.2 r h
theorem r11_Unknown_ok {K : Nat} {p0 : NodeA} {p1 : List Api_PairA} {r : Bool} (h : r11_Unknown K p0 p1 = some r) : Cn Tryz.prog 28 [aggV p0.enc, .d (slD Api_PairA.enc p1)] (.d (.val (.bool r))) := (key_r11_Unknown K) (p0, p1) r h
/-! ### isochrone/isochroneref01.Mul -/
def r01_Mul (K : Nat) (p0 : List Int) (p1 : List Int) : Option (List Int) := (makO 8 (IntKind.wrap .i64 ((IntKind.wrap .i64 ((p0.length : Int) + (p1.length : Int))) + (1 : Int))) (0 : Int)).bind fun l1 =>
 ((iter (S := Int × (List Int)) (R := (List Int)) K (fun again (i3_0, i3_1) =>
  if (decide (i3_0 < (p0.length : Int))) then
   (idx p0 i3_0).bind fun x8 =>
   ((iter (S := Int × Int × (List Int)) (R := (Int × (List Int))) K (fun again (i10_0, i10_1, i10_2) =>
    if (decide (i10_1 < (p1.length : Int))) then
     (idx p1 i10_1).bind fun x15 =>
     (idx i10_2 (IntKind.wrap .i64 (i3_0 + i10_1))).bind fun x17 =>
     (must ((10000 : Int) != 0)).bind fun z19 =>
     (must ((10000 : Int) != 0)).bind fun z21 =>
     again (IntKind.wrap .i64 ((IntKind.wrap .i64 (i10_0 + (IntKind.wrap .i64 (x17 + (IntKind.wrap .i64 (x8 * x15)))))).tdiv (10000 : Int)), IntKind.wrap .i64 (i10_1 + (1 : Int)), (i10_2.set ((IntKind.wrap .i64 (i3_0 + i10_1)).toNat) ((IntKind.wrap .i64 (i10_0 + (IntKind.wrap .i64 (x17 + (IntKind.wrap .i64 (x8 * x15)))))).tmod (10000 : Int))))
    else
     some (i10_0, i10_2)) ((0 : Int), (0 : Int), i3_1)) : Option (Int × (List Int))).bind (fun (e11_0, e11_1) =>
   ((iter (S := Int × Int × (List Int)) (R := (List Int)) K (fun again (i23_0, i23_1, i23_2) =>
    if (decide ((0 : Int) < i23_0)) then
     (idx i23_2 i23_1).bind fun x28 =>
     (must ((10000 : Int) != 0)).bind fun z30 =>
     (must ((10000 : Int) != 0)).bind fun z32 =>
     again (IntKind.wrap .i64 ((IntKind.wrap .i64 (i23_0 + x28)).tdiv (10000 : Int)), IntKind.wrap .i64 (i23_1 + (1 : Int)), (i23_2.set (i23_1.toNat) ((IntKind.wrap .i64 (i23_0 + x28)).tmod (10000 : Int))))
    else
     some i23_2) (e11_0, IntKind.wrap .i64 (i3_0 + (p1.length : Int)), e11_1)) : Option (List Int)).bind (fun e24_0 =>
   again (IntKind.wrap .i64 (i3_0 + (1 : Int)), e24_0)))
  else
   some i3_1) ((0 : Int), l1)) : Option (List Int)).bind (fun e4_0 =>
 (r01_trim K e4_0).bind fun r34 =>
 some r34)
set_option maxHeartbeats 4000000 in
theorem r01_Mul_ok {K : Nat} {p0 : List Int} {p1 : List Int} {r : (List Int)} (h : r01_Mul K p0 p1 = some r) : Cn Tryz.prog 122 [.d (slD i64V p0), .d (slD i64V p1)] (.d (slD i64V r)) := by
 refine Cn.ofA mixed Tryz.func122 rfl Tryz.call122 Tryz.ntmps122 Tryz.results122 (by simp) (by simp only [go_sem, reduceEqDiff, reduceAdd, reduceSub, reduceMul, reduceLeDiff, reduceLT, Nat.reduceBEq, reduceIte]) fun hfit => ?_
 unfold r01_Mul at h
 refine AW.kp [] [0, 1] ?_
 refine AW.op mixed ?_
 refine AW.kp [] [0, 1] ?_
 refine AW.op mixed ?_
 apply obindE h; intro l1 hx2 h
 refine makG (f := i64V) hx2 (nz ?_) ?_
 ·exact ⟨.same _, trivial⟩
 try simp only [go_sem, reduceEqDiff, reduceAdd, reduceSub, reduceMul, reduceLeDiff, reduceLT, Nat.reduceBEq, reduceIte]
 refine AW.cu [6] [(0, .d (slD i64V p0)), (1, .d (slD i64V p1)), (5, .msl 0 1 0 (l1.length))] [some ⟨1, (l1.map i64V).map (·.map .d)⟩] ?_
 refine AW.one ?_
 refine AW.op mixed ?_
 refine AW.cu [0] [(1, .d (slD i64V p1)), (5, .msl 0 1 0 (l1.length)), (19, .d (slD i64V p0)), (20, .d (.val (.int .i64 (p0.length : Int)))), (21, .d (.val (.int .i64 (0 : Int))))] [some ⟨1, (l1.map i64V).map (·.map .d)⟩] ?_
 refine obindE h fun oJ6 h hJ6 => ?_
 refine AW.join (S := (List Int)) (fun e4_0 => [(5, .msl 0 1 0 (e4_0.length))]) (fun e4_0 => [some ⟨1, (e4_0.map i64V).map (·.map .d)⟩]) (fun x => x = oJ6) ?_ ?_
 ·refine AW.block ?_
  refine AW.iter (S := Int × (List Int)) (fun (i3_0, i3_1) => [(1, .d (slD i64V p1)), (5, .msl 0 1 0 (i3_1.length)), (19, .d (slD i64V p0)), (20, .d (.val (.int .i64 (p0.length : Int)))), (21, .d (.val (.int .i64 i3_0)))]) (fun (i3_0, i3_1) => [some ⟨1, (i3_1.map i64V).map (·.map .d)⟩]) [0] h (by simp only [go_sem, reduceEqDiff, reduceAdd, reduceSub, reduceMul, reduceLeDiff, reduceLT, Nat.reduceBEq, reduceIte]) ?_
  rintro again ⟨i3_0, i3_1⟩ h
  try dsimp only at h
  refine AW.op mixed ?_
  refine AW.cu [0] [(1, .d (slD i64V p1)), (5, .msl 0 1 0 (i3_1.length)), (19, .d (slD i64V p0)), (20, .d (.val (.int .i64 (p0.length : Int)))), (21, .d (.val (.int .i64 i3_0))), (22, .d (.val (.bool (decide (i3_0 < (p0.length : Int))))))] [some ⟨1, (i3_1.map i64V).map (·.map .d)⟩] ?_
  refine AW.one ?_
  refine AW.ts (decide (i3_0 < (p0.length : Int))) (fun hb7 => ?_) (fun hb7 => ?_)
  ·have h := ifT hb7 h
   refine AW.sk ?_
   refine AW.cu [0] [(1, .d (slD i64V p1)), (5, .msl 0 1 0 (i3_1.length)), (19, .d (slD i64V p0)), (20, .d (.val (.int .i64 (p0.length : Int)))), (21, .d (.val (.int .i64 i3_0)))] [some ⟨1, (i3_1.map i64V).map (·.map .d)⟩] ?_
   refine AW.one ?_
   refine AW.block ?_
   refine AW.one ?_
   refine AW.reg mixed (by kernel_rfl) ?_
   apply obindE h; intro x8 hx9 h
   try simp only [go_sem, reduceEqDiff, reduceAdd, reduceSub, reduceMul, reduceLeDiff, reduceLT, Nat.reduceBEq, reduceIte, (idx_some hx9).1, (idx_some hx9).2]
   refine AW.cut [0] [(1, .d (slD i64V p1)), (5, .msl 0 1 0 (i3_1.length)), (6, .d (.val (.int .i64 i3_0))), (7, .d (.val (.int .i64 x8))), (19, .d (slD i64V p0)), (20, .d (.val (.int .i64 (p0.length : Int)))), (21, .d (.val (.int .i64 i3_0)))] [some ⟨1, (i3_1.map i64V).map (·.map .d)⟩] (by simp only [go_sem, reduceEqDiff, reduceAdd, reduceSub, reduceMul, reduceLeDiff, reduceLT, Nat.reduceBEq, reduceIte, (idx_some hx9).1, (idx_some hx9).2]) ?_
   refine AW.op mixed ?_
   refine AW.cu [0] [(1, .d (slD i64V p1)), (5, .msl 0 1 0 (i3_1.length)), (6, .d (.val (.int .i64 i3_0))), (7, .d (.val (.int .i64 x8))), (8, .d (.val (.int .i64 (0 : Int)))), (19, .d (slD i64V p0)), (20, .d (.val (.int .i64 (p0.length : Int)))), (21, .d (.val (.int .i64 i3_0)))] [some ⟨1, (i3_1.map i64V).map (·.map .d)⟩] ?_
   refine AW.one ?_
   refine AW.op mixed ?_
   refine AW.cu [0] [(1, .d (slD i64V p1)), (5, .msl 0 1 0 (i3_1.length)), (6, .d (.val (.int .i64 i3_0))), (7, .d (.val (.int .i64 x8))), (8, .d (.val (.int .i64 (0 : Int)))), (19, .d (slD i64V p0)), (20, .d (.val (.int .i64 (p0.length : Int)))), (21, .d (.val (.int .i64 i3_0))), (26, .d (slD i64V p1)), (27, .d (.val (.int .i64 (p1.length : Int)))), (28, .d (.val (.int .i64 (0 : Int))))] [some ⟨1, (i3_1.map i64V).map (·.map .d)⟩] ?_
   refine obindE h fun oJ13 h hJ13 => ?_
   refine AW.join (S := Int × (List Int)) (fun (e11_0, e11_1) => [(1, .d (slD i64V p1)), (5, .msl 0 1 0 (e11_1.length)), (6, .d (.val (.int .i64 i3_0))), (8, .d (.val (.int .i64 e11_0))), (19, .d (slD i64V p0)), (20, .d (.val (.int .i64 (p0.length : Int)))), (21, .d (.val (.int .i64 i3_0)))]) (fun (e11_0, e11_1) => [some ⟨1, (e11_1.map i64V).map (·.map .d)⟩]) (fun x => x = oJ13) ?_ ?_
   ·refine AW.block ?_
    refine AW.iter (S := Int × Int × (List Int)) (fun (i10_0, i10_1, i10_2) => [(1, .d (slD i64V p1)), (5, .msl 0 1 0 (i10_2.length)), (6, .d (.val (.int .i64 i3_0))), (7, .d (.val (.int .i64 x8))), (8, .d (.val (.int .i64 i10_0))), (19, .d (slD i64V p0)), (20, .d (.val (.int .i64 (p0.length : Int)))), (21, .d (.val (.int .i64 i3_0))), (26, .d (slD i64V p1)), (27, .d (.val (.int .i64 (p1.length : Int)))), (28, .d (.val (.int .i64 i10_1)))]) (fun (i10_0, i10_1, i10_2) => [some ⟨1, (i10_2.map i64V).map (·.map .d)⟩]) [0] h (by simp only [go_sem, reduceEqDiff, reduceAdd, reduceSub, reduceMul, reduceLeDiff, reduceLT, Nat.reduceBEq, reduceIte]) ?_
    rintro again ⟨i10_0, i10_1, i10_2⟩ h
    try dsimp only at h
    refine AW.op mixed ?_
    refine AW.cu [0] [(1, .d (slD i64V p1)), (5, .msl 0 1 0 (i10_2.length)), (6, .d (.val (.int .i64 i3_0))), (7, .d (.val (.int .i64 x8))), (8, .d (.val (.int .i64 i10_0))), (19, .d (slD i64V p0)), (20, .d (.val (.int .i64 (p0.length : Int)))), (21, .d (.val (.int .i64 i3_0))), (26, .d (slD i64V p1)), (27, .d (.val (.int .i64 (p1.length : Int)))), (28, .d (.val (.int .i64 i10_1))), (29, .d (.val (.bool (decide (i10_1 < (p1.length : Int))))))] [some ⟨1, (i10_2.map i64V).map (·.map .d)⟩] ?_
    refine AW.one ?_
    refine AW.ts (decide (i10_1 < (p1.length : Int))) (fun hb14 => ?_) (fun hb14 => ?_)
    ·have h := ifT hb14 h
     refine AW.sk ?_
     refine AW.cu [0] [(1, .d (slD i64V p1)), (5, .msl 0 1 0 (i10_2.length)), (6, .d (.val (.int .i64 i3_0))), (7, .d (.val (.int .i64 x8))), (8, .d (.val (.int .i64 i10_0))), (19, .d (slD i64V p0)), (20, .d (.val (.int .i64 (p0.length : Int)))), (21, .d (.val (.int .i64 i3_0))), (26, .d (slD i64V p1)), (27, .d (.val (.int .i64 (p1.length : Int)))), (28, .d (.val (.int .i64 i10_1)))] [some ⟨1, (i10_2.map i64V).map (·.map .d)⟩] ?_
     refine AW.one ?_
     refine AW.block ?_
     refine AW.one ?_
     refine AW.reg mixed (by kernel_rfl) ?_
     apply obindE h; intro x15 hx16 h
     try simp only [go_sem, reduceEqDiff, reduceAdd, reduceSub, reduceMul, reduceLeDiff, reduceLT, Nat.reduceBEq, reduceIte, (idx_some hx16).1, (idx_some hx16).2]
     refine AW.cut [0] [(1, .d (slD i64V p1)), (5, .msl 0 1 0 (i10_2.length)), (6, .d (.val (.int .i64 i3_0))), (7, .d (.val (.int .i64 x8))), (8, .d (.val (.int .i64 i10_0))), (9, .d (.val (.int .i64 i10_1))), (10, .d (.val (.int .i64 x15))), (19, .d (slD i64V p0)), (20, .d (.val (.int .i64 (p0.length : Int)))), (21, .d (.val (.int .i64 i3_0))), (26, .d (slD i64V p1)), (27, .d (.val (.int .i64 (p1.length : Int)))), (28, .d (.val (.int .i64 i10_1)))] [some ⟨1, (i10_2.map i64V).map (·.map .d)⟩] (by simp only [go_sem, reduceEqDiff, reduceAdd, reduceSub, reduceMul, reduceLeDiff, reduceLT, Nat.reduceBEq, reduceIte, (idx_some hx16).1, (idx_some hx16).2]) ?_
     refine AW.op mixed ?_
     apply obindE h; intro x17 hx18 h
     try simp only [go_sem, reduceEqDiff, reduceAdd, reduceSub, reduceMul, reduceLeDiff, reduceLT, Nat.reduceBEq, reduceIte, (idx_some hx18).1, idx_lt hx18, (idx_some hx18).2]
     refine AW.cut [0] [(1, .d (slD i64V p1)), (5, .msl 0 1 0 (i10_2.length)), (6, .d (.val (.int .i64 i3_0))), (7, .d (.val (.int .i64 x8))), (8, .d (.val (.int .i64 (IntKind.wrap .i64 (i10_0 + (IntKind.wrap .i64 (x17 + (IntKind.wrap .i64 (x8 * x15))))))))), (9, .d (.val (.int .i64 i10_1))), (19, .d (slD i64V p0)), (20, .d (.val (.int .i64 (p0.length : Int)))), (21, .d (.val (.int .i64 i3_0))), (26, .d (slD i64V p1)), (27, .d (.val (.int .i64 (p1.length : Int)))), (28, .d (.val (.int .i64 i10_1)))] [some ⟨1, (i10_2.map i64V).map (·.map .d)⟩] (by simp only [go_sem, reduceEqDiff, reduceAdd, reduceSub, reduceMul, reduceLeDiff, reduceLT, Nat.reduceBEq, reduceIte, (idx_some hx18).1, idx_lt hx18, (idx_some hx18).2]) ?_
     refine AW.one ?_
     refine AW.reg mixed (by kernel_rfl) ?_
     apply obindE h; intro z19 hx20 h
     try simp only [go_sem, reduceEqDiff, reduceAdd, reduceSub, reduceMul, reduceLeDiff, reduceLT, Nat.reduceBEq, reduceIte, bop_rem (P := Tryz.prog) (must_ne hx20), (idx_some hx18).1, idx_lt hx18, (idx_some hx18).2, List.length_set, (rows_set (l := i10_2) (f := i64V) (i := (IntKind.wrap .i64 (i3_0 + i10_1)).toNat) (v' := (IntKind.wrap .i64 (i10_0 + (IntKind.wrap .i64 (x17 + (IntKind.wrap .i64 (x8 * x15)))))).tmod (10000 : Int)) (row := [.d (.val (.int .i64 ((IntKind.wrap .i64 (i10_0 + (IntKind.wrap .i64 (x17 + (IntKind.wrap .i64 (x8 * x15)))))).tmod (10000 : Int))))]) (by simp only [go_sem, reduceEqDiff, reduceAdd, reduceSub, reduceMul, reduceLeDiff, reduceLT, Nat.reduceBEq, reduceIte]))]
     refine AW.cut [0] [(1, .d (slD i64V p1)), (5, .msl 0 1 0 ((i10_2.set ((IntKind.wrap .i64 (i3_0 + i10_1)).toNat) ((IntKind.wrap .i64 (i10_0 + (IntKind.wrap .i64 (x17 + (IntKind.wrap .i64 (x8 * x15)))))).tmod (10000 : Int))).length)), (6, .d (.val (.int .i64 i3_0))), (7, .d (.val (.int .i64 x8))), (8, .d (.val (.int .i64 (IntKind.wrap .i64 (i10_0 + (IntKind.wrap .i64 (x17 + (IntKind.wrap .i64 (x8 * x15))))))))), (19, .d (slD i64V p0)), (20, .d (.val (.int .i64 (p0.length : Int)))), (21, .d (.val (.int .i64 i3_0))), (26, .d (slD i64V p1)), (27, .d (.val (.int .i64 (p1.length : Int)))), (28, .d (.val (.int .i64 i10_1)))] [some ⟨1, ((i10_2.set ((IntKind.wrap .i64 (i3_0 + i10_1)).toNat) ((IntKind.wrap .i64 (i10_0 + (IntKind.wrap .i64 (x17 + (IntKind.wrap .i64 (x8 * x15)))))).tmod (10000 : Int))).map i64V).map (·.map .d)⟩] (by simp only [go_sem, reduceEqDiff, reduceAdd, reduceSub, reduceMul, reduceLeDiff, reduceLT, Nat.reduceBEq, reduceIte, bop_rem (P := Tryz.prog) (must_ne hx20), (idx_some hx18).1, idx_lt hx18, (idx_some hx18).2, List.length_set, (rows_set (l := i10_2) (f := i64V) (i := (IntKind.wrap .i64 (i3_0 + i10_1)).toNat) (v' := (IntKind.wrap .i64 (i10_0 + (IntKind.wrap .i64 (x17 + (IntKind.wrap .i64 (x8 * x15)))))).tmod (10000 : Int)) (row := [.d (.val (.int .i64 ((IntKind.wrap .i64 (i10_0 + (IntKind.wrap .i64 (x17 + (IntKind.wrap .i64 (x8 * x15)))))).tmod (10000 : Int))))]) (by simp only [go_sem, reduceEqDiff, reduceAdd, reduceSub, reduceMul, reduceLeDiff, reduceLT, Nat.reduceBEq, reduceIte]))]) ?_
     refine AW.reg mixed (by kernel_rfl) ?_
     apply obindE h; intro z21 hx22 h
     try simp only [go_sem, reduceEqDiff, reduceAdd, reduceSub, reduceMul, reduceLeDiff, reduceLT, Nat.reduceBEq, reduceIte, bop_quo (P := Tryz.prog) (must_ne hx22)]
     refine AW.cut [0] [(1, .d (slD i64V p1)), (5, .msl 0 1 0 ((i10_2.set ((IntKind.wrap .i64 (i3_0 + i10_1)).toNat) ((IntKind.wrap .i64 (i10_0 + (IntKind.wrap .i64 (x17 + (IntKind.wrap .i64 (x8 * x15)))))).tmod (10000 : Int))).length)), (6, .d (.val (.int .i64 i3_0))), (7, .d (.val (.int .i64 x8))), (8, .d (.val (.int .i64 (IntKind.wrap .i64 ((IntKind.wrap .i64 (i10_0 + (IntKind.wrap .i64 (x17 + (IntKind.wrap .i64 (x8 * x15)))))).tdiv (10000 : Int)))))), (19, .d (slD i64V p0)), (20, .d (.val (.int .i64 (p0.length : Int)))), (21, .d (.val (.int .i64 i3_0))), (26, .d (slD i64V p1)), (27, .d (.val (.int .i64 (p1.length : Int)))), (28, .d (.val (.int .i64 i10_1)))] [some ⟨1, ((i10_2.set ((IntKind.wrap .i64 (i3_0 + i10_1)).toNat) ((IntKind.wrap .i64 (i10_0 + (IntKind.wrap .i64 (x17 + (IntKind.wrap .i64 (x8 * x15)))))).tmod (10000 : Int))).map i64V).map (·.map .d)⟩] (by simp only [go_sem, reduceEqDiff, reduceAdd, reduceSub, reduceMul, reduceLeDiff, reduceLT, Nat.reduceBEq, reduceIte, bop_quo (P := Tryz.prog) (must_ne hx22)]) ?_
     refine AW.rg mixed ?_
     exact NextQ.ar (IntKind.wrap .i64 ((IntKind.wrap .i64 (i10_0 + (IntKind.wrap .i64 (x17 + (IntKind.wrap .i64 (x8 * x15)))))).tdiv (10000 : Int)), IntKind.wrap .i64 (i10_1 + (1 : Int)), (i10_2.set ((IntKind.wrap .i64 (i3_0 + i10_1)).toNat) ((IntKind.wrap .i64 (i10_0 + (IntKind.wrap .i64 (x17 + (IntKind.wrap .i64 (x8 * x15)))))).tmod (10000 : Int)))) [0] h
    have h := ifF hb14 h
    refine AW.ex ?_
    exact JoinQ.ar (i10_0, i10_2) [0] (Option.some.inj h)
   rintro ⟨e11_0, e11_1⟩ rfl
   have h := hJ13
   try dsimp only [Out.fin] at h
   refine nz ?_
   refine AW.cu [0] [(1, .d (slD i64V p1)), (5, .msl 0 1 0 (e11_1.length)), (6, .d (.val (.int .i64 i3_0))), (8, .d (.val (.int .i64 e11_0))), (19, .d (slD i64V p0)), (20, .d (.val (.int .i64 (p0.length : Int)))), (21, .d (.val (.int .i64 i3_0)))] [some ⟨1, (e11_1.map i64V).map (·.map .d)⟩] ?_
   refine AW.op mixed ?_
   refine AW.cu [0] [(1, .d (slD i64V p1)), (5, .msl 0 1 0 (e11_1.length)), (8, .d (.val (.int .i64 e11_0))), (11, .d (.val (.int .i64 (IntKind.wrap .i64 (i3_0 + (p1.length : Int)))))), (19, .d (slD i64V p0)), (20, .d (.val (.int .i64 (p0.length : Int)))), (21, .d (.val (.int .i64 i3_0)))] [some ⟨1, (e11_1.map i64V).map (·.map .d)⟩] ?_
   refine obindE h fun oJ26 h hJ26 => ?_
   refine AW.join (S := (List Int)) (fun e24_0 => [(1, .d (slD i64V p1)), (5, .msl 0 1 0 (e24_0.length)), (19, .d (slD i64V p0)), (20, .d (.val (.int .i64 (p0.length : Int)))), (21, .d (.val (.int .i64 i3_0)))]) (fun e24_0 => [some ⟨1, (e24_0.map i64V).map (·.map .d)⟩]) (fun x => x = oJ26) ?_ ?_
   ·refine AW.block ?_
    refine AW.iter (S := Int × Int × (List Int)) (fun (i23_0, i23_1, i23_2) => [(1, .d (slD i64V p1)), (5, .msl 0 1 0 (i23_2.length)), (8, .d (.val (.int .i64 i23_0))), (11, .d (.val (.int .i64 i23_1))), (19, .d (slD i64V p0)), (20, .d (.val (.int .i64 (p0.length : Int)))), (21, .d (.val (.int .i64 i3_0)))]) (fun (i23_0, i23_1, i23_2) => [some ⟨1, (i23_2.map i64V).map (·.map .d)⟩]) [0] h (by simp only [go_sem, reduceEqDiff, reduceAdd, reduceSub, reduceMul, reduceLeDiff, reduceLT, Nat.reduceBEq, reduceIte]) ?_
    rintro again ⟨i23_0, i23_1, i23_2⟩ h
    try dsimp only at h
    refine AW.one ?_
    refine AW.op mixed ?_
    refine AW.cu [0] [(1, .d (slD i64V p1)), (5, .msl 0 1 0 (i23_2.length)), (8, .d (.val (.int .i64 i23_0))), (11, .d (.val (.int .i64 i23_1))), (19, .d (slD i64V p0)), (20, .d (.val (.int .i64 (p0.length : Int)))), (21, .d (.val (.int .i64 i3_0))), (60, .d (.val (.bool (decide ((0 : Int) < i23_0)))))] [some ⟨1, (i23_2.map i64V).map (·.map .d)⟩] ?_
    refine AW.ts (decide ((0 : Int) < i23_0)) (fun hb27 => ?_) (fun hb27 => ?_)
    ·have h := ifT hb27 h
     refine AW.sk ?_
     refine AW.cu [0] [(1, .d (slD i64V p1)), (5, .msl 0 1 0 (i23_2.length)), (8, .d (.val (.int .i64 i23_0))), (11, .d (.val (.int .i64 i23_1))), (19, .d (slD i64V p0)), (20, .d (.val (.int .i64 (p0.length : Int)))), (21, .d (.val (.int .i64 i3_0)))] [some ⟨1, (i23_2.map i64V).map (·.map .d)⟩] ?_
     refine AW.one ?_
     refine AW.block ?_
     refine AW.op mixed ?_
     apply obindE h; intro x28 hx29 h
     try simp only [go_sem, reduceEqDiff, reduceAdd, reduceSub, reduceMul, reduceLeDiff, reduceLT, Nat.reduceBEq, reduceIte, (idx_some hx29).1, idx_lt hx29, (idx_some hx29).2]
     refine AW.cut [0] [(1, .d (slD i64V p1)), (5, .msl 0 1 0 (i23_2.length)), (8, .d (.val (.int .i64 (IntKind.wrap .i64 (i23_0 + x28))))), (11, .d (.val (.int .i64 i23_1))), (19, .d (slD i64V p0)), (20, .d (.val (.int .i64 (p0.length : Int)))), (21, .d (.val (.int .i64 i3_0)))] [some ⟨1, (i23_2.map i64V).map (·.map .d)⟩] (by simp only [go_sem, reduceEqDiff, reduceAdd, reduceSub, reduceMul, reduceLeDiff, reduceLT, Nat.reduceBEq, reduceIte, (idx_some hx29).1, idx_lt hx29, (idx_some hx29).2]) ?_
     refine AW.one ?_
     refine AW.reg mixed (by kernel_rfl) ?_
     apply obindE h; intro z30 hx31 h
     try simp only [go_sem, reduceEqDiff, reduceAdd, reduceSub, reduceMul, reduceLeDiff, reduceLT, Nat.reduceBEq, reduceIte, bop_rem (P := Tryz.prog) (must_ne hx31), (idx_some hx29).1, idx_lt hx29, (idx_some hx29).2, List.length_set, (rows_set (l := i23_2) (f := i64V) (i := i23_1.toNat) (v' := (IntKind.wrap .i64 (i23_0 + x28)).tmod (10000 : Int)) (row := [.d (.val (.int .i64 ((IntKind.wrap .i64 (i23_0 + x28)).tmod (10000 : Int))))]) (by simp only [go_sem, reduceEqDiff, reduceAdd, reduceSub, reduceMul, reduceLeDiff, reduceLT, Nat.reduceBEq, reduceIte]))]
     refine AW.cut [0] [(1, .d (slD i64V p1)), (5, .msl 0 1 0 ((i23_2.set (i23_1.toNat) ((IntKind.wrap .i64 (i23_0 + x28)).tmod (10000 : Int))).length)), (8, .d (.val (.int .i64 (IntKind.wrap .i64 (i23_0 + x28))))), (11, .d (.val (.int .i64 i23_1))), (19, .d (slD i64V p0)), (20, .d (.val (.int .i64 (p0.length : Int)))), (21, .d (.val (.int .i64 i3_0)))] [some ⟨1, ((i23_2.set (i23_1.toNat) ((IntKind.wrap .i64 (i23_0 + x28)).tmod (10000 : Int))).map i64V).map (·.map .d)⟩] (by simp only [go_sem, reduceEqDiff, reduceAdd, reduceSub, reduceMul, reduceLeDiff, reduceLT, Nat.reduceBEq, reduceIte, bop_rem (P := Tryz.prog) (must_ne hx31), (idx_some hx29).1, idx_lt hx29, (idx_some hx29).2, List.length_set, (rows_set (l := i23_2) (f := i64V) (i := i23_1.toNat) (v' := (IntKind.wrap .i64 (i23_0 + x28)).tmod (10000 : Int)) (row := [.d (.val (.int .i64 ((IntKind.wrap .i64 (i23_0 + x28)).tmod (10000 : Int))))]) (by simp only [go_sem, reduceEqDiff, reduceAdd, reduceSub, reduceMul, reduceLeDiff, reduceLT, Nat.reduceBEq, reduceIte]))]) ?_
     refine AW.reg mixed (by kernel_rfl) ?_
     apply obindE h; intro z32 hx33 h
     try simp only [go_sem, reduceEqDiff, reduceAdd, reduceSub, reduceMul, reduceLeDiff, reduceLT, Nat.reduceBEq, reduceIte, bop_quo (P := Tryz.prog) (must_ne hx33)]
     refine AW.cut [0] [(1, .d (slD i64V p1)), (5, .msl 0 1 0 ((i23_2.set (i23_1.toNat) ((IntKind.wrap .i64 (i23_0 + x28)).tmod (10000 : Int))).length)), (8, .d (.val (.int .i64 (IntKind.wrap .i64 ((IntKind.wrap .i64 (i23_0 + x28)).tdiv (10000 : Int)))))), (11, .d (.val (.int .i64 i23_1))), (19, .d (slD i64V p0)), (20, .d (.val (.int .i64 (p0.length : Int)))), (21, .d (.val (.int .i64 i3_0)))] [some ⟨1, ((i23_2.set (i23_1.toNat) ((IntKind.wrap .i64 (i23_0 + x28)).tmod (10000 : Int))).map i64V).map (·.map .d)⟩] (by simp only [go_sem, reduceEqDiff, reduceAdd, reduceSub, reduceMul, reduceLeDiff, reduceLT, Nat.reduceBEq, reduceIte, bop_quo (P := Tryz.prog) (must_ne hx33)]) ?_
     refine AW.rg mixed ?_
     exact NextQ.ar (IntKind.wrap .i64 ((IntKind.wrap .i64 (i23_0 + x28)).tdiv (10000 : Int)), IntKind.wrap .i64 (i23_1 + (1 : Int)), (i23_2.set (i23_1.toNat) ((IntKind.wrap .i64 (i23_0 + x28)).tmod (10000 : Int)))) [0] h
    have h := ifF hb27 h
    refine AW.ex ?_
    exact JoinQ.ar i23_2 [0] (Option.some.inj h)
   rintro e24_0 rfl
   have h := hJ26
   try dsimp only [Out.fin] at h
   refine nz ?_
   refine AW.cu [0] [(1, .d (slD i64V p1)), (5, .msl 0 1 0 (e24_0.length)), (19, .d (slD i64V p0)), (20, .d (.val (.int .i64 (p0.length : Int)))), (21, .d (.val (.int .i64 i3_0)))] [some ⟨1, (e24_0.map i64V).map (·.map .d)⟩] ?_
   refine AW.rg mixed ?_
   exact NextQ.ar (IntKind.wrap .i64 (i3_0 + (1 : Int)), e24_0) [0] h
  have h := ifF hb7 h
  refine AW.ex ?_
  exact JoinQ.ar i3_1 [0] (Option.some.inj h)
 rintro e4_0 rfl
 have h := hJ6
 try dsimp only [Out.fin] at h
 refine nz ?_
 refine AW.cu [0] [(5, .msl 0 1 0 (e4_0.length))] [some ⟨1, (e4_0.map i64V).map (·.map .d)⟩] ?_
 refine AW.op mixed ?_
 apply obindE h; intro r34 hx35 h
 have hc := nx (r01_trim_ok (h := hx35))
 refine callK_seal [0] hc ⟨sealArr (by simp only [go_sem, reduceEqDiff, reduceAdd, reduceSub, reduceMul, reduceLeDiff, reduceLT, Nat.reduceBEq, reduceIte]), trivial⟩ (by simp only [go_sem, reduceEqDiff, reduceAdd, reduceSub, reduceMul, reduceLeDiff, reduceLT, Nat.reduceBEq, reduceIte]) (by simp only [go_sem, reduceEqDiff, reduceAdd, reduceSub, reduceMul, reduceLeDiff, reduceLT, Nat.reduceBEq, reduceIte]) ?_
 try simp only [go_sem, reduceEqDiff, reduceAdd, reduceSub, reduceMul, reduceLeDiff, reduceLT, Nat.reduceBEq, reduceIte]
 refine AW.ret ?_
 obtain rfl := Option.some.inj h
 refine nz ?_
 exact .same _
/-! ### isochrone/isochroneref02.Make -/
def r02_Make (K : Nat) (p0 : Bool) (p1 : List Int) (p2 : List Int) : Option Isochroneref02_RatA := if ((p1.length : Int) == (0 : Int)) then
  (r02_Zero K ).bind fun r2 =>
  some r2
 else
  ((
   ((
    if ((p2.length : Int) == (1 : Int)) then
     (idx p2 (0 : Int)).bind fun x9 =>
     some (x9 == (1 : Int))
    else
     some false) : Option Bool).bind (fun v6_0 =>
   if v6_0 then
    outM (
     some (Isochroneref02_RatA.mk p0 p1 p2))
   else
    some (.go ()))) : Option (Out Unit _)).bind (Out.fin fun _ =>
  (r01_GCD K p1 p2).bind fun r12 =>
  ((
   ((
    if ((r12.length : Int) == (1 : Int)) then
     (idx r12 (0 : Int)).bind fun x19 =>
     some (x19 == (1 : Int))
    else
     some false) : Option Bool).bind (fun v16_0 =>
   if v16_0 then
    outM (
     some (Isochroneref02_RatA.mk p0 p1 p2))
   else
    some (.go ()))) : Option (Out Unit _)).bind (Out.fin fun _ =>
  (r01_DivMod K p1 r12).bind fun r22 =>
  (r01_DivMod K p2 r12).bind fun r24 =>
  some (Isochroneref02_RatA.mk p0 r22.1 r24.1)))
set_option maxHeartbeats 4000000 in
theorem r02_Make_ok {K : Nat} {p0 : Bool} {p1 : List Int} {p2 : List Int} {r : Isochroneref02_RatA} (h : r02_Make K p0 p1 p2 = some r) : Cn Tryz.prog 121 [.d (.val (.bool p0)), .d (slD i64V p1), .d (slD i64V p2)] (aggV r.enc) := by
 refine Cn.oz Tryz.func121 Tryz.call121 Tryz.ntmps121 Tryz.results121 fun hfit => ?_
 unfold r02_Make at h
 refine AW.kr [] [0, 1, 2] ?_
 refine AW.ks [0] [0, 1, 2, 6] ?_
 refine AW.one ?_
 refine AW.ro ?_
 refine AW.ks [0] [0, 1, 2, 6, 14] ?_
 refine AW.tk h (fun hb1 h => ?_) fun hb1 h => ?_
 ·refine AW.ro ?_
  refine cm h r02_Zero_ok fun r2 hx3 h => ?_
  refine AW.ret ?_
  cases h; refine nz ?_; exact .same _
 refine AW.ks [0] [0, 1, 2, 6] ?_
 refine AW.jo h (fun _ => [(0, vB p0), (1, vL i64V p1), (2, vL i64V p2), (6, .ptr 0 3 0 0)]) (fun _ => [some ⟨3, [[vB false, .d (.val (.slice none 0 0)), .d (.val (.slice none 0 0))]]⟩]) (fun oJ5 h hJ5 => ?_) fun ⟨⟩ h => ?_
 ·refine AW.jn h (fun v6_0 => [(0, vB p0), (1, vL i64V p1), (2, vL i64V p2), (6, .ptr 0 3 0 0), (24, vB v6_0)]) (fun v6_0 => [some ⟨3, [[vB false, .d (.val (.slice none 0 0)), .d (.val (.slice none 0 0))]]⟩]) (fun oJ7 h => ?_) fun v6_0 h => ?_
  ·refine AW.rp ?_
   refine sK h (fun hb8 h => ?_) fun hb8 h => ?_
   ·refine bx h fun x9 h0 h1 h => ?_
    exact ja [0] h
   exact ja [0] h
  refine AW.tk h (fun hb11 h => ?_) fun hb11 h => ?_
  ·refine AW.ro ?_
   refine AW.ret ?_
   have h := up h hJ5
   cases h; refine nz ?_; exact .same _
  exact jo [0] h
 refine AW.ro ?_
 refine cm h r01_GCD_ok fun r12 hx13 h => ?_
 refine AW.ks [0] [0, 1, 2, 6, 7] ?_
 refine AW.jo h (fun _ => [(0, vB p0), (1, vL i64V p1), (2, vL i64V p2), (6, .ptr 0 3 0 0), (7, vL i64V r12)]) (fun _ => [some ⟨3, [[vB false, .d (.val (.slice none 0 0)), .d (.val (.slice none 0 0))]]⟩]) (fun oJ15 h hJ15 => ?_) fun ⟨⟩ h => ?_
 ·refine AW.jn h (fun v16_0 => [(0, vB p0), (1, vL i64V p1), (2, vL i64V p2), (6, .ptr 0 3 0 0), (7, vL i64V r12), (40, vB v16_0)]) (fun v16_0 => [some ⟨3, [[vB false, .d (.val (.slice none 0 0)), .d (.val (.slice none 0 0))]]⟩]) (fun oJ17 h => ?_) fun v16_0 h => ?_
  ·refine AW.rp ?_
   refine sK h (fun hb18 h => ?_) fun hb18 h => ?_
   ·refine bx h fun x19 h0 h1 h => ?_
    exact ja [0] h
   exact ja [0] h
  refine AW.tk h (fun hb21 h => ?_) fun hb21 h => ?_
  ·refine AW.ro ?_
   refine AW.ret ?_
   have h := up h hJ15
   cases h; refine nz ?_; exact .same _
  exact jo [0] h
 refine AW.ro ?_
 refine cm h r01_DivMod_ok fun r22 hx23 h => ?_
 refine AW.kr [0] [0, 2, 6, 7, 8] ?_
 refine cm h r01_DivMod_ok fun r24 hx25 h => ?_
 refine AW.kr [0] [0, 6, 8, 10] ?_
 refine AW.ret ?_
 cases h; refine nz ?_; exact .same _
/-! ### isochrone/isochroneref02.Mul -/
def r02_Mul (K : Nat) (p0 : Isochroneref02_RatA) (p1 : Isochroneref02_RatA) : Option Isochroneref02_RatA := (r01_Mul K p0.n p1.n).bind fun r1 =>
 (r01_Mul K p0.d p1.d).bind fun r3 =>
 (r02_Make K (!(p0.neg == p1.neg)) r1 r3).bind fun r5 =>
 some r5
set_option maxHeartbeats 4000000 in
theorem r02_Mul_ok {K : Nat} {p0 : Isochroneref02_RatA} {p1 : Isochroneref02_RatA} {r : Isochroneref02_RatA} (h : r02_Mul K p0 p1 = some r) : Cn Tryz.prog 100 [aggV p0.enc, aggV p1.enc] (aggV r.enc) := by
 refine Cn.oz Tryz.func100 Tryz.call100 Tryz.ntmps100 Tryz.results100 fun hfit => ?_
 unfold r02_Mul at h
 refine AW.kr [] [0, 1] ?_
 refine AW.kr [0, 1, 2] [2, 3, 4] ?_
 refine pm h r01_Mul_ok fun r1 hx2 h => ?_
 refine pm h r01_Mul_ok fun r3 hx4 h => ?_
 refine pm h r02_Make_ok fun r5 hx6 h => ?_
 refine AW.ret ?_
 cases h; refine nz ?_; exact .same _
/-! ### isochrone/isochroneref02.Div -/
def r02_Div (K : Nat) (p0 : Isochroneref02_RatA) (p1 : Isochroneref02_RatA) : Option Isochroneref02_RatA := (r02_Mul K p0 (Isochroneref02_RatA.mk p1.neg p1.d p1.n)).bind fun r1 =>
 some r1
set_option maxHeartbeats 4000000 in
theorem r02_Div_ok {K : Nat} {p0 : Isochroneref02_RatA} {p1 : Isochroneref02_RatA} {r : Isochroneref02_RatA} (h : r02_Div K p0 p1 = some r) : Cn Tryz.prog 69 [aggV p0.enc, aggV p1.enc] (aggV r.enc) := by
 refine Cn.oz Tryz.func69 Tryz.call69 Tryz.ntmps69 Tryz.results69 fun hfit => ?_
 unfold r02_Div at h
 refine AW.kr [] [0, 1] ?_
 refine AW.kr [0, 1, 2] [2, 3, 4] ?_
 refine cm h r02_Mul_ok fun r1 hx2 h => ?_
 refine AW.ret ?_
 cases h; refine nz ?_; exact .same _
/-! ### isochrone/isochroneref02.Int -/
def r02_Int (K : Nat) (p0 : Int) : Option Isochroneref02_RatA := if (decide (p0 < (0 : Int))) then
  (r01_Int K (IntKind.wrap .i64 (0 - p0))).bind fun r2 =>
  some (Isochroneref02_RatA.mk true r2 [(1 : Int)])
 else
  (r01_Int K p0).bind fun r4 =>
  some (Isochroneref02_RatA.mk false r4 [(1 : Int)])
set_option maxHeartbeats 4000000 in
theorem r02_Int_ok {K : Nat} {p0 : Int} {r : Isochroneref02_RatA} (h : r02_Int K p0 = some r) : Cn Tryz.prog 67 [.d (.val (.int .i64 p0))] (aggV r.enc) := by
 refine Cn.oz Tryz.func67 Tryz.call67 Tryz.ntmps67 Tryz.results67 fun hfit => ?_
 unfold r02_Int at h
 refine AW.kr [] [0] ?_
 refine AW.ks [0] [0, 2] ?_
 refine AW.one ?_
 refine AW.ro ?_
 refine AW.ks [0] [0, 2, 4] ?_
 refine AW.tk h (fun hb1 h => ?_) fun hb1 h => ?_
 ·refine AW.ro ?_
  refine cm h r01_Int_ok fun r2 hx3 h => ?_
  refine AW.ret ?_
  cases h; refine nz ?_; exact .same _
 refine AW.kr [0] [0, 2] ?_
 refine cm h r01_Int_ok fun r4 hx5 h => ?_
 refine AW.ret ?_
 cases h; refine nz ?_; exact .same _
/-! ### isochrone/isochroneref02.Of -/
def r02_Of (K : Nat) (p0 : RatA) : Option Isochroneref02_RatA := (r01_Of K p0.num).bind fun r1 =>
 (r01_Of K p0.den).bind fun r3 =>
 some (Isochroneref02_RatA.mk p0.neg r1 r3)
set_option maxHeartbeats 4000000 in
theorem r02_Of_ok {K : Nat} {p0 : RatA} {r : Isochroneref02_RatA} (h : r02_Of K p0 = some r) : Cn Tryz.prog 64 [aggV p0.enc] (aggV r.enc) := by
 refine Cn.oz Tryz.func64 Tryz.call64 Tryz.ntmps64 Tryz.results64 fun hfit => ?_
 unfold r02_Of at h
 refine AW.kr [] [0] ?_
 refine AW.kr [0, 1] [1, 2] ?_
 refine pm h r01_Of_ok fun r1 hx2 h => ?_
 refine pm h r01_Of_ok fun r3 hx4 h => ?_
 refine AW.ret ?_
 cases h; refine nz ?_; exact .same _
/-! ### isochrone/isochroneref02.One -/
def r02_One (K : Nat)  : Option Isochroneref02_RatA := some (Isochroneref02_RatA.mk false [(1 : Int)] [(1 : Int)])
set_option maxHeartbeats 4000000 in
theorem r02_One_ok {K : Nat}  {r : Isochroneref02_RatA} (h : r02_One K  = some r) : Cn Tryz.prog 70 [] (aggV r.enc) := by
 refine Cn.oz Tryz.func70 Tryz.call70 Tryz.ntmps70 Tryz.results70 fun hfit => ?_
 unfold r02_One at h
 refine AW.kr [] [] ?_
 refine AW.kr [0] [0] ?_
 refine AW.ret ?_
 cases h; refine nz ?_; exact .same _
/-! ### isochrone/isochroneref02.Short -/
def r02_Short (K : Nat) (p0 : RatA) (p1 : Int) : Option Bool := if (decide ((p0.num.length : Int) ≤ p1)) then
  some (decide ((p0.den.length : Int) ≤ p1))
 else
  some false
set_option maxHeartbeats 4000000 in
theorem r02_Short_ok {K : Nat} {p0 : RatA} {p1 : Int} {r : Bool} (h : r02_Short K p0 p1 = some r) : Cn Tryz.prog 98 [aggV p0.enc, .d (.val (.int .i64 p1))] (.d (.val (.bool r))) := by
 refine Cn.oz Tryz.func98 Tryz.call98 Tryz.ntmps98 Tryz.results98 fun hfit => ?_
 unfold r02_Short at h
 refine AW.kr [] [0, 1] ?_
 refine AW.kr [0] [1, 2] ?_
 refine sK h (fun hb1 h => ?_) fun hb1 h => ?_
 ·refine AW.ret ?_
  cases h; refine nz ?_; exact .same _
 refine AW.ret ?_
 cases h; refine nz ?_; exact .same _
structure Isochroneref11_dualA where
 v : Isochroneref02_RatA
 d : Isochroneref02_RatA
 most : Int
 far : Bool
def Isochroneref11_dualA.enc (x : Isochroneref11_dualA) : List D := [.val (.bool x.v.neg), slD i64V x.v.n, slD i64V x.v.d, .val (.bool x.d.neg), slD i64V x.d.n, slD i64V x.d.d, .val (.int .i64 x.most), .val (.bool x.far)]
theorem Isochroneref11_dualA.enc_eta (x : Isochroneref11_dualA) : x.enc = [.val (.bool x.v.neg), slD i64V x.v.n, slD i64V x.v.d, .val (.bool x.d.neg), slD i64V x.d.n, slD i64V x.d.d, .val (.int .i64 x.most), .val (.bool x.far)] := rfl
attribute [go_sem] Isochroneref11_dualA.enc_eta
/-! ### isochrone/isochroneref11.lost -/
def r11_lost (K : Nat)  : Option Isochroneref11_dualA := (r02_Zero K ).bind fun r1 =>
 (r02_Zero K ).bind fun r3 =>
 some (Isochroneref11_dualA.mk r1 r3 (0 : Int) true)
set_option maxHeartbeats 4000000 in
theorem r11_lost_ok {K : Nat}  {r : Isochroneref11_dualA} (h : r11_lost K  = some r) : Cn Tryz.prog 99 [] (aggV r.enc) := by
 refine Cn.oz Tryz.func99 Tryz.call99 Tryz.ntmps99 Tryz.results99 fun hfit => ?_
 unfold r11_lost at h
 refine AW.kr [] [] ?_
 refine AW.kr [0] [0] ?_
 refine cm h r02_Zero_ok fun r1 hx2 h => ?_
 refine cm h r02_Zero_ok fun r3 hx4 h => ?_
 refine AW.ret ?_
 cases h; refine nz ?_; exact .same _
/-! ### isochrone/isochroneref11.looked -/
def r11_looked (K : Nat) (p0 : Isochroneref11_dualA) : Option Isochroneref11_dualA := ((
  ((
   if p0.far then
    some true
   else
    (r02_To K p0.v).bind fun r6 =>
    (r02_Short K r6 p0.most).bind fun r8 =>
    if (!r8) then
     some true
    else
     (r02_To K p0.d).bind fun r11 =>
     (r02_Short K r11 p0.most).bind fun r13 =>
     some (!r13)) : Option Bool).bind (fun v3_0 =>
  if v3_0 then
   (r11_lost K ).bind fun r16 =>
   outM (
    some r16)
  else
   some (.go ()))) : Option (Out Unit _)).bind (Out.fin fun _ =>
 some p0)
set_option maxHeartbeats 4000000 in
theorem r11_looked_ok {K : Nat} {p0 : Isochroneref11_dualA} {r : Isochroneref11_dualA} (h : r11_looked K p0 = some r) : Cn Tryz.prog 65 [aggV p0.enc] (aggV r.enc) := by
 refine Cn.oz Tryz.func65 Tryz.call65 Tryz.ntmps65 Tryz.results65 fun hfit => ?_
 unfold r11_looked at h
 refine AW.kr [] [0] ?_
 refine AW.ks [0, 1] [1, 2] ?_
 refine AW.jo h (fun _ => [(1, .ptr 0 8 0 0), (2, .ptr 1 8 0 0)]) (fun _ => [vE p0.enc, some ⟨8, [[vB false, .d (.val (.slice none 0 0)), .d (.val (.slice none 0 0)), vB false, .d (.val (.slice none 0 0)), .d (.val (.slice none 0 0)), vI (0 : Int), vB false]]⟩]) (fun oJ2 h hJ2 => ?_) fun ⟨⟩ h => ?_
 ·refine AW.jn h (fun v3_0 => [(1, .ptr 0 8 0 0), (2, .ptr 1 8 0 0), (22, vB v3_0)]) (fun v3_0 => [vE p0.enc, some ⟨8, [[vB false, .d (.val (.slice none 0 0)), .d (.val (.slice none 0 0)), vB false, .d (.val (.slice none 0 0)), .d (.val (.slice none 0 0)), vI (0 : Int), vB false]]⟩]) (fun oJ4 h => ?_) fun v3_0 h => ?_
  ·refine AW.rp ?_
   refine sK h (fun hb5 h => ?_) fun hb5 h => ?_
   ·exact ja [0, 1] h
   refine pm h r02_To_ok fun r6 hx7 h => ?_
   refine pm h r02_Short_ok fun r8 hx9 h => ?_
   refine sK h (fun hb10 h => ?_) fun hb10 h => ?_
   ·exact ja [0, 1] h
   refine pm h r02_To_ok fun r11 hx12 h => ?_
   refine pm h r02_Short_ok fun r13 hx14 h => ?_
   exact ja [0, 1] h
  refine AW.tk h (fun hb15 h => ?_) fun hb15 h => ?_
  ·refine AW.ro ?_
   refine cm h r11_lost_ok fun r16 hx17 h => ?_
   refine AW.ret ?_
   have h := up h hJ2
   cases h; refine nz ?_; exact .same _
  exact jo [0, 1] h
 refine AW.ro ?_
 refine AW.ret ?_
 cases h; refine nz ?_; exact .same _
/-! ### isochrone/isochroneref11.plain -/
def r11_plain (K : Nat) (p0 : Isochroneref02_RatA) (p1 : Int) : Option Isochroneref11_dualA := (r02_Zero K ).bind fun r1 =>
 (r11_looked K (Isochroneref11_dualA.mk p0 r1 p1 false)).bind fun r3 =>
 some r3
set_option maxHeartbeats 4000000 in
theorem r11_plain_ok {K : Nat} {p0 : Isochroneref02_RatA} {p1 : Int} {r : Isochroneref11_dualA} (h : r11_plain K p0 p1 = some r) : Cn Tryz.prog 31 [aggV p0.enc, .d (.val (.int .i64 p1))] (aggV r.enc) := by
 refine Cn.oz Tryz.func31 Tryz.call31 Tryz.ntmps31 Tryz.results31 fun hfit => ?_
 unfold r11_plain at h
 refine AW.kr [] [0, 1] ?_
 refine AW.kr [0, 1] [1, 2, 4] ?_
 refine pm h r02_Zero_ok fun r1 hx2 h => ?_
 refine pm h r11_looked_ok fun r3 hx4 h => ?_
 refine AW.ret ?_
 cases h; refine nz ?_; exact .same _
/-! ### isochrone/isochroneref01.Add -/
def r01_Add (K : Nat) (p0 : List Int) (p1 : List Int) : Option (List Int) := ((iter (S := Int × Int × (List Int)) (R := (List Int)) K (fun again (i1_0, i1_1, i1_2) =>
  ((
   ((
    if (decide (i1_1 < (p0.length : Int))) then
     some true
    else
     if (decide (i1_1 < (p1.length : Int))) then
      some true
     else
      some (decide ((0 : Int) < i1_0))) : Option Bool).bind (fun v7_0 =>
   if v7_0 then
    some (.go ())
   else
    outM (
     some i1_2))) : Option (Out Unit _)).bind (Out.fin fun _ =>
  ((
   ((
    if (decide (i1_1 < (p0.length : Int))) then
     (idx p0 i1_1).bind fun x17 =>
     some (IntKind.wrap .i64 (i1_0 + x17))
    else
     some i1_0) : Option Int).bind (fun v14_0 =>
   ((
    if (decide (i1_1 < (p1.length : Int))) then
     (idx p1 i1_1).bind fun x22 =>
     some (IntKind.wrap .i64 (v14_0 + x22))
    else
     some v14_0) : Option Int).bind (fun v19_0 =>
   (must ((10000 : Int) != 0)).bind fun z24 =>
   (appO 8 i1_2 [v19_0.tmod (10000 : Int)]).bind fun l26 =>
   (must ((10000 : Int) != 0)).bind fun z28 =>
   some (IntKind.wrap .i64 (v19_0.tdiv (10000 : Int)), l26)))) : Option (Int × (List Int))).bind (fun (v12_0, v12_1) =>
  again (v12_0, IntKind.wrap .i64 (i1_1 + (1 : Int)), v12_1)))) ((0 : Int), (0 : Int), [])) : Option (List Int)).bind (fun e2_0 =>
 some e2_0)
set_option maxHeartbeats 4000000 in
theorem r01_Add_ok {K : Nat} {p0 : List Int} {p1 : List Int} {r : (List Int)} (h : r01_Add K p0 p1 = some r) : Cn Tryz.prog 123 [.d (slD i64V p0), .d (slD i64V p1)] (.d (slD i64V r)) := by
 refine Cn.oz Tryz.func123 Tryz.call123 Tryz.ntmps123 Tryz.results123 fun hfit => ?_
 unfold r01_Add at h
 refine AW.kr [] [0, 1] ?_
 refine AW.kr [] [0, 1] ?_
 refine AW.kr [] [0, 1, 5] ?_
 refine AW.ks [] [0, 1, 5, 6] ?_
 refine AW.one ?_
 refine AW.ro ?_
 refine AW.ks [] [0, 1, 5, 6, 7] ?_
 refine AW.lm h (fun e2_0 => [(5, accV 0 1 ((e2_0.map i64V).map (·.map .d)))]) (fun e2_0 => [accO 1 ((e2_0.map i64V).map (·.map .d))]) (fun (i1_0, i1_1, i1_2) => [(0, vL i64V p0), (1, vL i64V p1), (5, accV 0 1 ((i1_2.map i64V).map (·.map .d))), (6, vI i1_0), (7, vI i1_1)]) (fun (i1_0, i1_1, i1_2) => [accO 1 ((i1_2.map i64V).map (·.map .d))]) [1000] (fun oJ4 again ⟨i1_0, i1_1, i1_2⟩ h => ?_) fun e2_0 h => ?_
 ·try dsimp only at h
  refine AW.jo h (fun _ => [(0, vL i64V p0), (1, vL i64V p1), (5, accV 0 1 ((i1_2.map i64V).map (·.map .d))), (6, vI i1_0), (7, vI i1_1)]) (fun _ => [accO 1 ((i1_2.map i64V).map (·.map .d))]) (fun oJ6 h hJ6 => ?_) fun ⟨⟩ h => ?_
  ·refine AW.jn h (fun v7_0 => [(0, vL i64V p0), (1, vL i64V p1), (5, accV 0 1 ((i1_2.map i64V).map (·.map .d))), (6, vI i1_0), (7, vI i1_1), (21, vB v7_0)]) (fun v7_0 => [accO 1 ((i1_2.map i64V).map (·.map .d))]) (fun oJ8 h => ?_) fun v7_0 h => ?_
   ·refine AW.rp ?_
    refine sK h (fun hb9 h => ?_) fun hb9 h => ?_
    ·exact ja [0] h
    refine sK h (fun hb10 h => ?_) fun hb10 h => ?_
    ·exact ja [0] h
    exact ja [0] h
   refine AW.tt h (fun hb11 h => ?_) fun hb11 h => ?_
   ·refine AW.sk ?_
    exact jo [0] h
   refine AW.ex ?_
   have h := up h hJ6
   exact ja [0] h
  refine AW.jn h (fun (v12_0, v12_1) => [(0, vL i64V p0), (1, vL i64V p1), (5, accV 0 1 ((v12_1.map i64V).map (·.map .d))), (6, vI v12_0), (7, vI i1_1)]) (fun (v12_0, v12_1) => [accO 1 ((v12_1.map i64V).map (·.map .d))]) (fun oJ13 h => ?_) fun ⟨v12_0, v12_1⟩ h => ?_
  ·refine AW.block ?_
   refine AW.jn h (fun v14_0 => [(0, vL i64V p0), (1, vL i64V p1), (5, accV 0 1 ((i1_2.map i64V).map (·.map .d))), (6, vI v14_0), (7, vI i1_1)]) (fun v14_0 => [accO 1 ((i1_2.map i64V).map (·.map .d))]) (fun oJ15 h => ?_) fun v14_0 h => ?_
   ·refine AW.ro ?_
    refine AW.ks [0] [0, 1, 5, 6, 7, 27] ?_
    refine AW.tk h (fun hb16 h => ?_) fun hb16 h => ?_
    ·refine AW.rp ?_
     refine bx h fun x17 h0 h1 h => ?_
     exact ja [0] h
    exact ja [0] h
   refine AW.jn h (fun v19_0 => [(0, vL i64V p0), (1, vL i64V p1), (5, accV 0 1 ((i1_2.map i64V).map (·.map .d))), (6, vI v19_0), (7, vI i1_1)]) (fun v19_0 => [accO 1 ((i1_2.map i64V).map (·.map .d))]) (fun oJ20 h => ?_) fun v19_0 h => ?_
   ·refine AW.ro ?_
    refine AW.ks [0] [0, 1, 5, 6, 7, 37] ?_
    refine AW.tk h (fun hb21 h => ?_) fun hb21 h => ?_
    ·refine AW.rp ?_
     refine bx h fun x22 h0 h1 h => ?_
     exact ja [0] h
    exact ja [0] h
   refine AW.ro ?_
   apply bE h; intro _ hx25 h; have hx25 := mr hx25; refine ns ?_
   refine ag (f := i64V) h fun l26 hx27 h => ?_
   refine AW.ks [5] [0, 1, 5, 6, 7] ?_
   refine AW.rp ?_
   apply bE h; intro _ hx29 h; have hx29 := mq hx29; refine ns ?_
   exact ja [0] h
  try dsimp only at h
  refine AW.rp ?_
  exact na [0] h
 refine AW.kr [0] [5] ?_
 refine AW.ret ?_
 cases h; refine nz ?_; exact sealAcc (by simp only [go_sem, reduceEqDiff, reduceAdd, reduceSub, reduceMul, reduceLeDiff, reduceLT, Nat.reduceBEq, reduceIte])
end Go.Proofs.YtphgabghcedphaaGreatDoor
