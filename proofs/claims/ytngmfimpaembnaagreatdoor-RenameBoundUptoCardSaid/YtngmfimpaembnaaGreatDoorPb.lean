/- Part of the proof of a law: contracts of the functions that the law reaches, or plain laws of them, out of the abstract layer (the texts YtngmfimpaembnaaGreatDoorIso..). No condition. -/
import Derived.Test.YtngmfimpaembnaaGreatDoorW
import Derived.Test.YtngmfimpaembnaaGreatDoorIsoS
import Derived.Test.YtngmfimpaembnaaGreatDoorLman
import Derived.Test.YtngmfimpaembnaaGreatDoorShelf
import Derived.Test.YtngmfimpaembnaaGreatDoorPa
open Nat (reduceEqDiff reduceAdd reduceSub reduceMul reduceLeDiff reduceLT)
namespace Go.Proofs.YtngmfimpaembnaaGreatDoor
open Go Go.Iso Go.Proofs
set_option linter.unusedSimpArgs false
set_option linter.unusedVariables false
set_option maxRecDepth 100000
/-! ### isochrone/tree.Compare -/
def tree_Compare_body (K : Nat) (self112 : (NodeA × NodeA) → Option Int) (p0 : NodeA) (p1 : NodeA) : Option Int := if (p0.op != p1.op) then
    (tree_less K (decide (p0.op < p1.op))).bind fun r2 => 
    some r2
  else
    if (!(p0.name.toList == p1.name.toList)) then
      (tree_less K (Op.bytesLess p0.name.toList p1.name.toList)).bind fun r5 => 
      some r5
    else
      if (!(p0.num.neg == p1.num.neg)) then
        (tree_less K p1.num.neg).bind fun r8 => 
        some r8
      else
        (tree_words K p0.num.num p1.num.num).bind fun r10 => 
        if (r10 != (0 : Int)) then
          some r10
        else
          (tree_words K p0.num.den p1.num.den).bind fun r13 => 
          if (r13 != (0 : Int)) then
            some r13
          else
            if ((p0.kids.length : Int) != (p1.kids.length : Int)) then
              (tree_less K (decide ((p0.kids.length : Int) < (p1.kids.length : Int)))).bind fun r17 => 
              some r17
            else
              ((iter (S := Int) (R := Out Unit _) K (fun again i19_0 => 
                if (decide (i19_0 < (p0.kids.length : Int))) then
                  (idx p0.kids i19_0).bind fun x24 => 
                  (idx p1.kids i19_0).bind fun x26 => 
                  (self112 (x24, x26)).bind fun r28 => 
                  if (r28 != (0 : Int)) then
                    outM (
                      some r28)
                  else
                    again (IntKind.wrap .i64 (i19_0 + (1 : Int)))
                else
                  some (.go ())) (0 : Int)) : Option (Out Unit _)).bind (Out.fin fun _ => 
              some (0 : Int))
set_option maxHeartbeats 4000000 in
theorem tree_Compare_step (K : Nat) (self112 : (NodeA × NodeA) → Option Int) (hself112 : ∀ (q : NodeA × NodeA) (r : Int), self112 q = some r → Cn Tryz.prog 112 [aggV q.1.enc, aggV q.2.enc] (.d (.val (.int .i64 r)))) (p0 : NodeA) (p1 : NodeA) (r : Int) (h : tree_Compare_body K self112 p0 p1 = some r) : Cn Tryz.prog 112 [aggV p0.enc, aggV p1.enc] (.d (.val (.int .i64 r))) := by
  refine Cn.oz Tryz.func112 Tryz.call112 Tryz.ntmps112 Tryz.results112 fun hfit => ?_
  unfold tree_Compare_body at h
  refine AW.kr [] [0, 1] ?_
  refine AW.ks [0, 1] [2, 3] ?_
  refine AW.one ?_
  refine AW.block ?_
  refine AW.ro ?_
  refine AW.ks [0, 1] [2, 3, 9] ?_
  refine AW.tt h (fun hb1 h => ?_) fun hb1 h => ?_
  · refine AW.ro ?_
    refine cm h tree_less_ok fun r2 hx3 h => ?_
    refine AW.ret ?_
    cases h; refine nz ?_; exact .same _
  refine AW.ro ?_
  refine AW.ks [0, 1] [2, 3, 21] ?_
  refine AW.tt h (fun hb4 h => ?_) fun hb4 h => ?_
  · refine AW.ro ?_
    refine cm h tree_less_ok fun r5 hx6 h => ?_
    refine AW.ret ?_
    cases h; refine nz ?_; exact .same _
  refine AW.ro ?_
  refine AW.ks [0, 1] [2, 3, 33] ?_
  refine AW.tk h (fun hb7 h => ?_) fun hb7 h => ?_
  · refine AW.ro ?_
    refine cm h tree_less_ok fun r8 hx9 h => ?_
    refine AW.ret ?_
    cases h; refine nz ?_; exact .same _
  refine AW.ks [0, 1] [2, 3] ?_
  refine AW.one ?_
  refine AW.ro ?_
  refine cm h tree_words_ok fun r10 hx11 h => ?_
  refine AW.kr [0, 1] [2, 3, 5] ?_
  refine AW.ks [0, 1] [2, 3, 5, 53] ?_
  refine AW.tk h (fun hb12 h => ?_) fun hb12 h => ?_
  · refine AW.ro ?_
    refine AW.ret ?_
    cases h; refine nz ?_; exact .same _
  refine AW.ks [0, 1] [2, 3] ?_
  refine AW.one ?_
  refine AW.ro ?_
  refine cm h tree_words_ok fun r13 hx14 h => ?_
  refine AW.kr [0, 1] [2, 3, 6] ?_
  refine AW.ks [0, 1] [2, 3, 6, 63] ?_
  refine AW.tk h (fun hb15 h => ?_) fun hb15 h => ?_
  · refine AW.ro ?_
    refine AW.ret ?_
    cases h; refine nz ?_; exact .same _
  refine AW.ks [0, 1] [2, 3] ?_
  refine AW.one ?_
  refine AW.ro ?_
  refine AW.ks [0, 1] [2, 3, 71] ?_
  refine AW.tk h (fun hb16 h => ?_) fun hb16 h => ?_
  · refine AW.ro ?_
    refine cm h tree_less_ok fun r17 hx18 h => ?_
    refine AW.ret ?_
    cases h; refine nz ?_; exact .same _
  refine AW.ks [0, 1] [2, 3] ?_
  refine AW.one ?_
  refine AW.ro ?_
  refine AW.ks [0, 1] [2, 3, 82, 83] ?_
  refine AW.lp h (fun _ => []) (fun _ => []) (fun i19_0 => [(2, .ptr 0 6 0 0), (3, .ptr 1 6 0 0), (82, vI (p0.kids.length : Int)), (83, vI i19_0)]) (fun i19_0 => [vE p0.enc, vE p1.enc]) [0, 1] (fun oJ22 hJ22 again i19_0 h => ?_) fun ⟨⟩ h => ?_
  · refine AW.ro ?_
    refine AW.ks [0, 1] [2, 3, 82, 83, 84] ?_
    refine AW.one ?_
    refine AW.tt h (fun hb23 h => ?_) fun hb23 h => ?_
    · refine AW.sk ?_
      refine AW.ks [0, 1] [2, 3, 82, 83] ?_
      refine AW.one ?_
      refine AW.block ?_
      refine AW.ro ?_
      refine AW.kr [0, 1] [2, 3, 7, 82, 83] ?_
      refine bx h fun x24 h0 h1 h => ?_
      refine bx h fun x26 h0 h1 h => ?_
      refine pm h (hself112 _ _) fun r28 hx29 h => ?_
      refine AW.kr [0, 1] [2, 3, 8, 82, 83] ?_
      refine AW.ks [0, 1] [2, 3, 8, 82, 83, 98] ?_
      refine AW.tk h (fun hb30 h => ?_) fun hb30 h => ?_
      · refine AW.ro ?_
        refine AW.ret ?_
        have h := up h hJ22
        cases h; refine nz ?_; exact .same _
      refine AW.ks [0, 1] [2, 3, 82, 83] ?_
      refine AW.rp ?_
      exact na [0, 1] h
    refine AW.ex ?_
    exact jo [] h
  refine AW.kr [] [] ?_
  refine AW.ret ?_
  cases h; refine nz ?_; exact .same _
def tree_Compare (K : Nat) (p0 : NodeA) (p1 : NodeA) : Option Int := iter K (fun self q => tree_Compare_body K self q.1 q.2) (p0, p1)
theorem key_tree_Compare {K : Nat} (k : Nat) : (∀ (q : NodeA × NodeA) (r : Int), iter k (fun self q => tree_Compare_body K self q.1 q.2) q = some r → Cn Tryz.prog 112 [aggV q.1.enc, aggV q.2.enc] (.d (.val (.int .i64 r)))) := by
  induction k with
  | zero => exact fun q r h => by cases h
  | succ k ih => exact fun q r h => tree_Compare_step K _ ih q.1 q.2 r h
theorem tree_Compare_ok {K : Nat} {p0 : NodeA} {p1 : NodeA} {r : Int} (h : tree_Compare K p0 p1 = some r) : Cn Tryz.prog 112 [aggV p0.enc, aggV p1.enc] (.d (.val (.int .i64 r))) := (key_tree_Compare K) (p0, p1) r h
/-! ### isochrone/tree.Equal -/
def tree_Equal (K : Nat) (p0 : NodeA) (p1 : NodeA) : Option Bool := (tree_Compare K p0 p1).bind fun r1 => 
  some (r1 == (0 : Int))
set_option maxHeartbeats 4000000 in
theorem tree_Equal_ok {K : Nat} {p0 : NodeA} {p1 : NodeA} {r : Bool} (h : tree_Equal K p0 p1 = some r) : Cn Tryz.prog 92 [aggV p0.enc, aggV p1.enc] (.d (.val (.bool r))) := by
  refine Cn.oz Tryz.func92 Tryz.call92 Tryz.ntmps92 Tryz.results92 fun hfit => ?_
  unfold tree_Equal at h
  refine AW.kr [] [0, 1] ?_
  refine AW.kr [0, 1] [2, 3] ?_
  refine cm h tree_Compare_ok fun r1 hx2 h => ?_
  refine AW.ret ?_
  cases h; refine nz ?_; exact .same _
/-! ### isochrone/rename.same -/
def rename_same_body (K : Nat) (self55 : (NodeA × NodeA) → Option Bool) (p0 : NodeA) (p1 : NodeA) : Option Bool := ((
    ((
      if (p0.op != p1.op) then
        some true
      else
        if ((p0.kids.length : Int) != (p1.kids.length : Int)) then
          some true
        else
          (tree_Equal K (NodeA.mk (0 : Int) (⟨#[]⟩ : ByteArray) p0.num []) (NodeA.mk (0 : Int) (⟨#[]⟩ : ByteArray) p1.num [])).bind fun r7 => 
          some (!r7)) : Option Bool).bind (fun v3_0 => 
    if v3_0 then
      outM (
        some false)
    else
      some (.go ()))) : Option (Out Unit _)).bind (Out.fin fun _ => 
  (rename_binder K p0).bind fun r10 => 
  (rename_binder K p1).bind fun r12 => 
  ((
    ((
      if r10.2.2 then
        if r12.2.2 then
          some (!(r10.1.toList == r12.1.toList))
        else
          some false
      else
        some false) : Option Bool).bind (fun v16_0 => 
    if v16_0 then
      ((
        if (r10.2.1 == (1 : Int)) then
          (idx p0.kids (0 : Int)).bind fun x24 => 
          (idx p1.kids (0 : Int)).bind fun x26 => 
          ((
            if (x24.op != x26.op) then
              some true
            else
              if ((x24.kids.length : Int) != (x26.kids.length : Int)) then
                some true
              else
                if (decide ((0 : Int) < (x24.kids.length : Int))) then
                  (idx x24.kids (0 : Int)).bind fun x33 => 
                  (idx x26.kids (0 : Int)).bind fun x35 => 
                  (self55 (x33, x35)).bind fun r37 => 
                  some (!r37)
                else
                  some false) : Option Bool).bind (fun v28_0 => 
          if v28_0 then
            outM (
              outM (
                some false))
          else
            some (.go ()))
        else
          some (.go ())) : Option (Out Unit _)).bind (Out.fin fun _ => 
      (idx p0.kids r10.2.1).bind fun x40 => 
      (idx p1.kids r10.2.1).bind fun x42 => 
      ((
        ((
          (rename_renamable K x40).bind fun r48 => 
          if (!r48) then
            some true
          else
            (rename_renamable K x42).bind fun r51 => 
            if (!r51) then
              some true
            else
              (catO r10.1 (⟨#[39]⟩ : ByteArray)).bind fun s54 => 
              (rename_touches K x40 s54).bind fun r56 => 
              if r56 then
                some true
              else
                (catO r12.1 (⟨#[39]⟩ : ByteArray)).bind fun s59 => 
                (rename_touches K x42 s59).bind fun r61 => 
                some r61) : Option Bool).bind (fun v46_0 => 
        if v46_0 then
          outM (
            outM (
              some false))
        else
          some (.go ()))) : Option (Out Unit _)).bind (Out.fin fun _ => 
      (rename_third K p0 p1).bind fun r64 => 
      (rename_uniform K x40 r10.1 r64).bind fun r66 => 
      (rename_uniform K x42 r12.1 r64).bind fun r68 => 
      (self55 (r66, r68)).bind fun r70 => 
      outM (
        some r70)))
    else
      some (.go ()))) : Option (Out Unit _)).bind (Out.fin fun _ => 
  if (!(p0.name.toList == p1.name.toList)) then
    some false
  else
    ((iter (S := Int) (R := Out Unit _) K (fun again i73_0 => 
      if (decide (i73_0 < (p0.kids.length : Int))) then
        (idx p0.kids i73_0).bind fun x78 => 
        (idx p1.kids i73_0).bind fun x80 => 
        (self55 (x78, x80)).bind fun r82 => 
        if (!r82) then
          outM (
            some false)
        else
          again (IntKind.wrap .i64 (i73_0 + (1 : Int)))
      else
        some (.go ())) (0 : Int)) : Option (Out Unit _)).bind (Out.fin fun _ => 
    some true)))
set_option maxHeartbeats 4000000 in
theorem rename_same_step (K : Nat) (self55 : (NodeA × NodeA) → Option Bool) (hself55 : ∀ (q : NodeA × NodeA) (r : Bool), self55 q = some r → Cn Tryz.prog 55 [aggV q.1.enc, aggV q.2.enc] (.d (.val (.bool r)))) (p0 : NodeA) (p1 : NodeA) (r : Bool) (h : rename_same_body K self55 p0 p1 = some r) : Cn Tryz.prog 55 [aggV p0.enc, aggV p1.enc] (.d (.val (.bool r))) := by
  refine Cn.oz Tryz.func55 Tryz.call55 Tryz.ntmps55 Tryz.results55 fun hfit => ?_
  unfold rename_same_body at h
  refine AW.kr [] [0, 1] ?_
  refine AW.ks [0, 1] [2, 3] ?_
  refine AW.jo h (fun _ => [(2, .ptr 0 6 0 0), (3, .ptr 1 6 0 0)]) (fun _ => [vE p0.enc, vE p1.enc]) (fun oJ2 h hJ2 => ?_) fun ⟨⟩ h => ?_
  · refine AW.jn h (fun v3_0 => [(2, .ptr 0 6 0 0), (3, .ptr 1 6 0 0), (40, vB v3_0)]) (fun v3_0 => [vE p0.enc, vE p1.enc]) (fun oJ4 h => ?_) fun v3_0 h => ?_
    · refine AW.rp ?_
      refine sK h (fun hb5 h => ?_) fun hb5 h => ?_
      · exact ja [0, 1] h
      refine sK h (fun hb6 h => ?_) fun hb6 h => ?_
      · exact ja [0, 1] h
      refine cv h tree_Equal_ok (fun r7 hx8 h => ?_) (hs := by exact ⟨.aggL ⟨.same _, .same _, .same _, .same _, .same _, .nil, trivial⟩, .aggL ⟨.same _, .same _, .same _, .same _, .same _, .nil, trivial⟩, trivial⟩)
      exact ja [0, 1] h
    refine AW.tk h (fun hb9 h => ?_) fun hb9 h => ?_
    · refine AW.ro ?_
      refine AW.ret ?_
      have h := up h hJ2
      cases h; refine nz ?_; exact .same _
    exact jo [0, 1] h
  refine AW.ro ?_
  refine cm h rename_binder_ok fun r10 hx11 h => ?_
  refine AW.kr [0, 1] [2, 3, 5, 6, 7] ?_
  refine cm h rename_binder_ok fun r12 hx13 h => ?_
  refine AW.ks [0, 1] [2, 3, 5, 6, 7, 8, 10] ?_
  refine AW.jo h (fun _ => [(2, .ptr 0 6 0 0), (3, .ptr 1 6 0 0)]) (fun _ => [vE p0.enc, vE p1.enc]) (fun oJ15 h hJ15 => ?_) fun ⟨⟩ h => ?_
  · refine AW.jn h (fun v16_0 => [(2, .ptr 0 6 0 0), (3, .ptr 1 6 0 0), (5, vS r10.1), (6, vI r10.2.1), (8, vS r12.1), (61, vB v16_0)]) (fun v16_0 => [vE p0.enc, vE p1.enc]) (fun oJ17 h => ?_) fun v16_0 h => ?_
    · refine AW.rp ?_
      refine sK h (fun hb18 h => ?_) fun hb18 h => ?_
      · refine sK h (fun hb19 h => ?_) fun hb19 h => ?_
        · exact ja [0, 1] h
        exact ja [0, 1] h
      exact ja [0, 1] h
    refine AW.tk h (fun hb20 h => ?_) fun hb20 h => ?_
    · refine AW.jo h (fun _ => [(2, .ptr 0 6 0 0), (3, .ptr 1 6 0 0), (5, vS r10.1), (6, vI r10.2.1), (8, vS r12.1)]) (fun _ => [vE p0.enc, vE p1.enc]) (fun oJ22 h hJ22 => ?_) fun ⟨⟩ h => ?_
      · refine AW.ro ?_
        refine AW.ks [0, 1] [2, 3, 5, 6, 8, 63] ?_
        refine AW.tk h (fun hb23 h => ?_) fun hb23 h => ?_
        · refine AW.ro ?_
          refine bx h fun x24 h0 h1 h => ?_
          refine bx h fun x26 h0 h1 h => ?_
          refine AW.ks [0, 1, 10, 11] [2, 3, 5, 6, 8, 11, 12] ?_
          refine AW.jn h (fun v28_0 => [(2, .ptr 0 6 0 0), (3, .ptr 1 6 0 0), (5, vS r10.1), (6, vI r10.2.1), (8, vS r12.1), (103, vB v28_0)]) (fun v28_0 => [vE p0.enc, vE p1.enc]) (fun oJ29 h => ?_) fun v28_0 h => ?_
          · refine AW.rp ?_
            refine sK h (fun hb30 h => ?_) fun hb30 h => ?_
            · exact ja [0, 1] h
            refine sK h (fun hb31 h => ?_) fun hb31 h => ?_
            · exact ja [0, 1] h
            refine sK h (fun hb32 h => ?_) fun hb32 h => ?_
            · refine bx h fun x33 h0 h1 h => ?_
              refine bx h fun x35 h0 h1 h => ?_
              refine pm h (hself55 _ _) fun r37 hx38 h => ?_
              exact ja [0, 1] h
            exact ja [0, 1] h
          refine AW.tk h (fun hb39 h => ?_) fun hb39 h => ?_
          · refine AW.ro ?_
            refine AW.ret ?_
            have h := up h hJ22
            have h := up h hJ15
            cases h; refine nz ?_; exact .same _
          exact jo [0, 1] h
        exact jo [0, 1] h
      refine AW.ro ?_
      refine bx h fun x40 h0 h1 h => ?_
      refine bx h fun x42 h0 h1 h => ?_
      refine AW.ks [0, 1, 12, 13] [2, 3, 5, 8, 13, 14] ?_
      refine AW.jo h (fun _ => [(2, .ptr 0 6 0 0), (3, .ptr 1 6 0 0), (5, vS r10.1), (8, vS r12.1), (13, .ptr 2 6 0 0), (14, .ptr 3 6 0 0)]) (fun _ => [vE p0.enc, vE p1.enc, vE x40.enc, vE x42.enc]) (fun oJ45 h hJ45 => ?_) fun ⟨⟩ h => ?_
      · refine AW.jn h (fun v46_0 => [(2, .ptr 0 6 0 0), (3, .ptr 1 6 0 0), (5, vS r10.1), (8, vS r12.1), (13, .ptr 2 6 0 0), (14, .ptr 3 6 0 0), (133, vB v46_0)]) (fun v46_0 => [vE p0.enc, vE p1.enc, vE x40.enc, vE x42.enc]) (fun oJ47 h => ?_) fun v46_0 h => ?_
        · refine AW.rp ?_
          refine cm h rename_renamable_ok fun r48 hx49 h => ?_
          refine sK h (fun hb50 h => ?_) fun hb50 h => ?_
          · exact ja [0, 1, 2, 3] h
          refine cm h rename_renamable_ok fun r51 hx52 h => ?_
          refine sK h (fun hb53 h => ?_) fun hb53 h => ?_
          · exact ja [0, 1, 2, 3] h
          apply bE h; intro s54 hx55 h; have hx55 := bt hx55; refine ns ?_
          refine cm h rename_touches_ok fun r56 hx57 h => ?_
          refine sK h (fun hb58 h => ?_) fun hb58 h => ?_
          · exact ja [0, 1, 2, 3] h
          apply bE h; intro s59 hx60 h; have hx60 := bt hx60; refine ns ?_
          refine cm h rename_touches_ok fun r61 hx62 h => ?_
          exact ja [0, 1, 2, 3] h
        refine AW.tk h (fun hb63 h => ?_) fun hb63 h => ?_
        · refine AW.ro ?_
          refine AW.ret ?_
          have h := up h hJ45
          have h := up h hJ15
          cases h; refine nz ?_; exact .same _
        exact jo [0, 1, 2, 3] h
      refine AW.ro ?_
      refine cm h rename_third_ok fun r64 hx65 h => ?_
      refine AW.kr [2, 3] [5, 8, 13, 14, 15] ?_
      refine pm h rename_uniform_ok fun r66 hx67 h => ?_
      refine pm h rename_uniform_ok fun r68 hx69 h => ?_
      refine pm h (hself55 _ _) fun r70 hx71 h => ?_
      refine AW.ret ?_
      have h := up h hJ15
      cases h; refine nz ?_; exact .same _
    exact jo [0, 1] h
  refine AW.one ?_
  refine AW.ro ?_
  refine AW.ks [0, 1] [2, 3, 150] ?_
  refine AW.tk h (fun hb72 h => ?_) fun hb72 h => ?_
  · refine AW.ro ?_
    refine AW.ret ?_
    cases h; refine nz ?_; exact .same _
  refine AW.ks [0, 1] [2, 3] ?_
  refine AW.one ?_
  refine AW.ro ?_
  refine AW.ks [0, 1] [2, 3, 153, 154] ?_
  refine AW.lp h (fun _ => []) (fun _ => []) (fun i73_0 => [(2, .ptr 0 6 0 0), (3, .ptr 1 6 0 0), (153, vI (p0.kids.length : Int)), (154, vI i73_0)]) (fun i73_0 => [vE p0.enc, vE p1.enc]) [0, 1] (fun oJ76 hJ76 again i73_0 h => ?_) fun ⟨⟩ h => ?_
  · refine AW.ro ?_
    refine AW.ks [0, 1] [2, 3, 153, 154, 155] ?_
    refine AW.one ?_
    refine AW.tt h (fun hb77 h => ?_) fun hb77 h => ?_
    · refine AW.sk ?_
      refine AW.ks [0, 1] [2, 3, 153, 154] ?_
      refine AW.one ?_
      refine AW.block ?_
      refine AW.ro ?_
      refine AW.kr [0, 1] [2, 3, 16, 153, 154] ?_
      refine bx h fun x78 h0 h1 h => ?_
      refine bx h fun x80 h0 h1 h => ?_
      refine pm h (hself55 _ _) fun r82 hx83 h => ?_
      refine AW.ks [0, 1] [2, 3, 153, 154, 168] ?_
      refine AW.tk h (fun hb84 h => ?_) fun hb84 h => ?_
      · refine AW.ro ?_
        refine AW.ret ?_
        have h := up h hJ76
        cases h; refine nz ?_; exact .same _
      refine AW.ks [0, 1] [2, 3, 153, 154] ?_
      refine AW.rp ?_
      exact na [0, 1] h
    refine AW.ex ?_
    exact jo [] h
  refine AW.kr [] [] ?_
  refine AW.ret ?_
  cases h; refine nz ?_; exact .same _
def rename_same (K : Nat) (p0 : NodeA) (p1 : NodeA) : Option Bool := iter K (fun self q => rename_same_body K self q.1 q.2) (p0, p1)
theorem key_rename_same {K : Nat} (k : Nat) : (∀ (q : NodeA × NodeA) (r : Bool), iter k (fun self q => rename_same_body K self q.1 q.2) q = some r → Cn Tryz.prog 55 [aggV q.1.enc, aggV q.2.enc] (.d (.val (.bool r)))) := by
  induction k with
  | zero => exact fun q r h => by cases h
  | succ k ih => exact fun q r h => rename_same_step K _ ih q.1 q.2 r h
theorem rename_same_ok {K : Nat} {p0 : NodeA} {p1 : NodeA} {r : Bool} (h : rename_same K p0 p1 = some r) : Cn Tryz.prog 55 [aggV p0.enc, aggV p1.enc] (.d (.val (.bool r))) := (key_rename_same K) (p0, p1) r h
/-! ### isochrone/rename.Same -/
def rename_Same (K : Nat) (p0 : NodeA) (p1 : NodeA) : Option (Bool × Int) := (tree_Sort K p0.op).bind fun r1 => 
  (rename_check K p0).bind fun r3 => 
  if (r3 != (0 : Int)) then
    some (false, r3)
  else
    ((
      (tree_Sort K p1.op).bind fun r8 => 
      ((
        if (r8 == (0 : Int)) then
          some true
        else
          some (r8 == (4 : Int))) : Option Bool).bind (fun v10_0 => 
      if v10_0 then
        outM (
          some (false, (80 : Int)))
      else
        (tree_Check K p1 r8).bind fun r14 => 
        if (r14 != (0 : Int)) then
          outM (
            some (false, r14))
        else
          if (r8 != r1) then
            outM (
              some (false, (0 : Int)))
          else
            some (.go ()))) : Option (Out Unit _)).bind (Out.fin fun _ => 
    (rename_same K p0 p1).bind fun r18 => 
    some (r18, (0 : Int)))
set_option maxHeartbeats 4000000 in
theorem rename_Same_ok {K : Nat} {p0 : NodeA} {p1 : NodeA} {r : Bool × Int} (h : rename_Same K p0 p1 = some r) : Cn Tryz.prog 22 [aggV p0.enc, aggV p1.enc] (.tup [.d (.val (.bool r.1)), .d (.val (.int .i64 r.2))]) := by
  refine Cn.oz Tryz.func22 Tryz.call22 Tryz.ntmps22 Tryz.results22 fun hfit => ?_
  unfold rename_Same at h
  refine AW.kr [] [0, 1] ?_
  refine AW.kr [0, 1] [2, 3] ?_
  refine cm h tree_Sort_ok fun r1 hx2 h => ?_
  refine AW.ks [0, 1] [2, 3, 6] ?_
  refine AW.one ?_
  refine AW.ro ?_
  refine cm h rename_check_ok fun r3 hx4 h => ?_
  refine AW.kr [0, 1] [2, 3, 6, 7] ?_
  refine AW.ks [0, 1] [2, 3, 6, 7, 16] ?_
  refine AW.tk h (fun hb5 h => ?_) fun hb5 h => ?_
  · refine AW.ro ?_
    refine AW.ret ?_
    cases h; refine nz ?_; exact .same _
  refine AW.ks [0, 1] [2, 3, 6] ?_
  refine AW.jo h (fun _ => [(2, .ptr 0 6 0 0), (3, .ptr 1 6 0 0)]) (fun _ => [vE p0.enc, vE p1.enc]) (fun oJ7 h hJ7 => ?_) fun ⟨⟩ h => ?_
  · refine AW.ro ?_
    refine cm h tree_Sort_ok fun r8 hx9 h => ?_
    refine AW.ks [0, 1] [2, 3, 6, 8] ?_
    refine AW.jn h (fun v10_0 => [(2, .ptr 0 6 0 0), (3, .ptr 1 6 0 0), (6, vI r1), (8, vI r8), (26, vB v10_0)]) (fun v10_0 => [vE p0.enc, vE p1.enc]) (fun oJ11 h => ?_) fun v10_0 h => ?_
    · refine AW.rp ?_
      refine sK h (fun hb12 h => ?_) fun hb12 h => ?_
      · exact ja [0, 1] h
      exact ja [0, 1] h
    refine AW.tt h (fun hb13 h => ?_) fun hb13 h => ?_
    · refine AW.ro ?_
      refine AW.ret ?_
      have h := up h hJ7
      cases h; refine nz ?_; exact .same _
    refine AW.ro ?_
    refine cm h tree_Check_ok fun r14 hx15 h => ?_
    refine AW.kr [0, 1] [2, 3, 6, 8, 9] ?_
    refine AW.ks [0, 1] [2, 3, 6, 8, 9, 31] ?_
    refine AW.tt h (fun hb16 h => ?_) fun hb16 h => ?_
    · refine AW.ro ?_
      refine AW.ret ?_
      have h := up h hJ7
      cases h; refine nz ?_; exact .same _
    refine AW.ro ?_
    refine AW.ks [0, 1] [2, 3, 35] ?_
    refine AW.tk h (fun hb17 h => ?_) fun hb17 h => ?_
    · refine AW.ro ?_
      refine AW.ret ?_
      have h := up h hJ7
      cases h; refine nz ?_; exact .same _
    exact jo [0, 1] h
  refine AW.ro ?_
  refine cm h rename_same_ok fun r18 hx19 h => ?_
  refine AW.ret ?_
  cases h; refine nz ?_; exact .same _
/-! ### isochrone/isochronelaw18.awake -/
def law18_awake (K : Nat)  : Option Bool := (rename_Bound K (NodeA.mk (33 : Int) (⟨#[120]⟩ : ByteArray) (RatA.mk false [] []) [(NodeA.mk (22 : Int) (⟨#[]⟩ : ByteArray) (RatA.mk false [] []) [(NodeA.mk (2 : Int) (⟨#[120]⟩ : ByteArray) (RatA.mk false [] []) []), (NodeA.mk (2 : Int) (⟨#[122]⟩ : ByteArray) (RatA.mk false [] []) [])])]) [] (⟨#[121]⟩ : ByteArray)).bind fun r1 => 
  (rename_Same K (NodeA.mk (33 : Int) (⟨#[120]⟩ : ByteArray) (RatA.mk false [] []) [(NodeA.mk (22 : Int) (⟨#[]⟩ : ByteArray) (RatA.mk false [] []) [(NodeA.mk (2 : Int) (⟨#[120]⟩ : ByteArray) (RatA.mk false [] []) []), (NodeA.mk (2 : Int) (⟨#[122]⟩ : ByteArray) (RatA.mk false [] []) [])])]) (NodeA.mk (33 : Int) (⟨#[121]⟩ : ByteArray) (RatA.mk false [] []) [(NodeA.mk (22 : Int) (⟨#[]⟩ : ByteArray) (RatA.mk false [] []) [(NodeA.mk (2 : Int) (⟨#[121]⟩ : ByteArray) (RatA.mk false [] []) []), (NodeA.mk (2 : Int) (⟨#[122]⟩ : ByteArray) (RatA.mk false [] []) [])])])).bind fun r3 => 
  (rename_Bound K (NodeA.mk (33 : Int) (⟨#[120]⟩ : ByteArray) (RatA.mk false [] []) [(NodeA.mk (22 : Int) (⟨#[]⟩ : ByteArray) (RatA.mk false [] []) [(NodeA.mk (2 : Int) (⟨#[120]⟩ : ByteArray) (RatA.mk false [] []) []), (NodeA.mk (2 : Int) (⟨#[122]⟩ : ByteArray) (RatA.mk false [] []) [])])]) [] (⟨#[122]⟩ : ByteArray)).bind fun r5 => 
  if (r1.2 == (0 : Int)) then
    (r08_Equal K r1.1 (NodeA.mk (33 : Int) (⟨#[121]⟩ : ByteArray) (RatA.mk false [] []) [(NodeA.mk (22 : Int) (⟨#[]⟩ : ByteArray) (RatA.mk false [] []) [(NodeA.mk (2 : Int) (⟨#[121]⟩ : ByteArray) (RatA.mk false [] []) []), (NodeA.mk (2 : Int) (⟨#[122]⟩ : ByteArray) (RatA.mk false [] []) [])])])).bind fun r8 => 
    if r8 then
      if (r3.2 == (0 : Int)) then
        if r3.1 then
          some (r5.2 == (180 : Int))
        else
          some false
      else
        some false
    else
      some false
  else
    some false
set_option maxHeartbeats 4000000 in
theorem law18_awake_ok {K : Nat}  {r : Bool} (h : law18_awake K  = some r) : Cn Tryz.prog 7 [] (.d (.val (.bool r))) := by
  refine Cn.oz Tryz.func7 Tryz.call7 Tryz.ntmps7 Tryz.results7 fun hfit => ?_
  unfold law18_awake at h
  refine AW.kr [] [] ?_
  refine AW.kr [] [] ?_
  refine AW.kr [1] [1] ?_
  refine AW.kr [0, 7] [1, 2] ?_
  refine AW.kr [1, 8] [2, 3] ?_
  apply bE h; intro r1 hx2 h
  have hc := rename_Bound_ok (h := hx2)
  try simp only [slD, NodeA.enc_eta, RatA.enc_eta, NodeA.op_mk, NodeA.name_mk, NodeA.num_mk, NodeA.kids_mk, aggV, i64V, u32V, strV, List.map_cons, List.map_nil] at hc
  refine callK_conv hc ⟨.aggL ⟨.same _, .same _, .same _, .nil, .nil, .d (.dn (.rows ⟨⟨.refl _, .refl _, .refl _, .nil _ _, .nil _ _, .rows ⟨⟨.refl _, .refl _, .refl _, .nil _ _, .nil _ _, .nil _ _, trivial⟩, ⟨.refl _, .refl _, .refl _, .nil _ _, .nil _ _, .nil _ _, trivial⟩, trivial⟩, trivial⟩, trivial⟩)), trivial⟩, .nil, .same _, trivial⟩ (by simp only [go_sem, reduceEqDiff, reduceAdd, reduceSub, reduceMul, reduceLeDiff, reduceLT, Nat.reduceBEq, reduceIte]) ?_
  refine ns ?_
  refine AW.kr [0, 1, 7] [2, 3, 4, 5] ?_
  apply bE h; intro r3 hx4 h
  have hc := rename_Same_ok (h := hx4)
  try simp only [slD, NodeA.enc_eta, RatA.enc_eta, NodeA.op_mk, NodeA.name_mk, NodeA.num_mk, NodeA.kids_mk, aggV, i64V, u32V, strV, List.map_cons, List.map_nil] at hc
  refine callK_conv hc ⟨.aggL ⟨.same _, .same _, .same _, .nil, .nil, .d (.dn (.rows ⟨⟨.refl _, .refl _, .refl _, .nil _ _, .nil _ _, .rows ⟨⟨.refl _, .refl _, .refl _, .nil _ _, .nil _ _, .nil _ _, trivial⟩, ⟨.refl _, .refl _, .refl _, .nil _ _, .nil _ _, .nil _ _, trivial⟩, trivial⟩, trivial⟩, trivial⟩)), trivial⟩, .aggL ⟨.same _, .same _, .same _, .nil, .nil, .d (.dn (.rows ⟨⟨.refl _, .refl _, .refl _, .nil _ _, .nil _ _, .rows ⟨⟨.refl _, .refl _, .refl _, .nil _ _, .nil _ _, .nil _ _, trivial⟩, ⟨.refl _, .refl _, .refl _, .nil _ _, .nil _ _, .nil _ _, trivial⟩, trivial⟩, trivial⟩, trivial⟩)), trivial⟩, trivial⟩ (by simp only [go_sem, reduceEqDiff, reduceAdd, reduceSub, reduceMul, reduceLeDiff, reduceLT, Nat.reduceBEq, reduceIte]) ?_
  refine ns ?_
  refine AW.kr [0, 1, 2] [2, 3, 4, 5, 6, 7] ?_
  apply bE h; intro r5 hx6 h
  have hc := rename_Bound_ok (h := hx6)
  try simp only [slD, NodeA.enc_eta, RatA.enc_eta, NodeA.op_mk, NodeA.name_mk, NodeA.num_mk, NodeA.kids_mk, aggV, i64V, u32V, strV, List.map_cons, List.map_nil] at hc
  refine callK_conv hc ⟨.aggL ⟨.same _, .same _, .same _, .nil, .nil, .d (.dn (.rows ⟨⟨.refl _, .refl _, .refl _, .nil _ _, .nil _ _, .rows ⟨⟨.refl _, .refl _, .refl _, .nil _ _, .nil _ _, .nil _ _, trivial⟩, ⟨.refl _, .refl _, .refl _, .nil _ _, .nil _ _, .nil _ _, trivial⟩, trivial⟩, trivial⟩, trivial⟩)), trivial⟩, .nil, .same _, trivial⟩ (by simp only [go_sem, reduceEqDiff, reduceAdd, reduceSub, reduceMul, reduceLeDiff, reduceLT, Nat.reduceBEq, reduceIte]) ?_
  refine ns ?_
  refine AW.kr [1, 2] [3, 4, 5, 6, 7, 9] ?_
  refine sK h (fun hb7 h => ?_) fun hb7 h => ?_
  · apply bE h; intro r8 hx9 h
    have hc := r08_Equal_ok (h := hx9)
    try simp only [slD, NodeA.enc_eta, RatA.enc_eta, NodeA.op_mk, NodeA.name_mk, NodeA.num_mk, NodeA.kids_mk, aggV, i64V, u32V, strV, List.map_cons, List.map_nil] at hc
    refine callK_conv hc ⟨.same _, .aggL ⟨.same _, .same _, .same _, .nil, .nil, .d (.dn (.rows ⟨⟨.refl _, .refl _, .refl _, .nil _ _, .nil _ _, .rows ⟨⟨.refl _, .refl _, .refl _, .nil _ _, .nil _ _, .nil _ _, trivial⟩, ⟨.refl _, .refl _, .refl _, .nil _ _, .nil _ _, .nil _ _, trivial⟩, trivial⟩, trivial⟩, trivial⟩)), trivial⟩, trivial⟩ (by simp only [go_sem, reduceEqDiff, reduceAdd, reduceSub, reduceMul, reduceLeDiff, reduceLT, Nat.reduceBEq, reduceIte]) ?_
    refine ns ?_
    refine sK h (fun hb10 h => ?_) fun hb10 h => ?_
    · refine sK h (fun hb11 h => ?_) fun hb11 h => ?_
      · refine sK h (fun hb12 h => ?_) fun hb12 h => ?_
        · refine AW.ret ?_
          cases h; refine nz ?_; exact .same _
        refine AW.ret ?_
        cases h; refine nz ?_; exact .same _
      refine AW.ret ?_
      cases h; refine nz ?_; exact .same _
    refine AW.ret ?_
    cases h; refine nz ?_; exact .same _
  refine AW.ret ?_
  cases h; refine nz ?_; exact .same _
/-! ### isochrone/isochroneref08.Size -/
def r08_Size_body (K : Nat) (self8 : NodeA → Option Int) (p0 : NodeA) : Option Int := ((iter (S := Int × Int) (R := Int) K (fun again (i1_0, i1_1) => 
    if (decide (i1_1 < (p0.kids.length : Int))) then
      (idx p0.kids i1_1).bind fun x6 => 
      (self8 (x6)).bind fun r8 => 
      again (IntKind.wrap .i64 (i1_0 + r8), IntKind.wrap .i64 (i1_1 + (1 : Int)))
    else
      some i1_0) ((1 : Int), (0 : Int))) : Option Int).bind (fun e2_0 => 
  some e2_0)
set_option maxHeartbeats 4000000 in
theorem r08_Size_step (K : Nat) (self8 : NodeA → Option Int) (hself8 : ∀ (q : NodeA) (r : Int), self8 q = some r → Cn Tryz.prog 8 [aggV q.enc] (.d (.val (.int .i64 r)))) (p0 : NodeA) (r : Int) (h : r08_Size_body K self8 p0 = some r) : Cn Tryz.prog 8 [aggV p0.enc] (.d (.val (.int .i64 r))) := by
  refine Cn.oz Tryz.func8 Tryz.call8 Tryz.ntmps8 Tryz.results8 fun hfit => ?_
  unfold r08_Size_body at h
  refine AW.kr [] [0] ?_
  refine AW.kr [0] [1] ?_
  refine AW.ks [0] [1, 3] ?_
  refine AW.one ?_
  refine AW.ro ?_
  refine AW.ks [0] [1, 3, 4] ?_
  refine AW.lm h (fun e2_0 => [(3, vI e2_0)]) (fun e2_0 => []) (fun (i1_0, i1_1) => [(1, .ptr 0 6 0 0), (3, vI i1_0), (4, vI i1_1)]) (fun (i1_0, i1_1) => [vE p0.enc]) [0] (fun oJ4 again ⟨i1_0, i1_1⟩ h => ?_) fun e2_0 h => ?_
  · try dsimp only at h
    refine AW.one ?_
    refine AW.ro ?_
    refine AW.ks [0] [1, 3, 4, 9] ?_
    refine AW.tt h (fun hb5 h => ?_) fun hb5 h => ?_
    · refine AW.sk ?_
      refine AW.ks [0] [1, 3, 4] ?_
      refine AW.one ?_
      refine AW.block ?_
      refine AW.rp ?_
      refine bx h fun x6 h0 h1 h => ?_
      refine cm h (hself8 _ _) fun r8 hx9 h => ?_
      refine AW.ks [0] [1, 3, 4] ?_
      refine AW.rp ?_
      exact na [0] h
    refine AW.ex ?_
    exact ja [] h
  refine AW.kr [] [3] ?_
  refine AW.ret ?_
  cases h; refine nz ?_; exact .same _
def r08_Size (K : Nat) (p0 : NodeA) : Option Int := iter K (fun self q => r08_Size_body K self q) p0
theorem key_r08_Size {K : Nat} (k : Nat) : (∀ (q : NodeA) (r : Int), iter k (fun self q => r08_Size_body K self q) q = some r → Cn Tryz.prog 8 [aggV q.enc] (.d (.val (.int .i64 r)))) := by
  induction k with
  | zero => exact fun q r h => by cases h
  | succ k ih => exact fun q r h => r08_Size_step K _ ih q r h
theorem r08_Size_ok {K : Nat} {p0 : NodeA} {r : Int} (h : r08_Size K p0 = some r) : Cn Tryz.prog 8 [aggV p0.enc] (.d (.val (.int .i64 r))) := (key_r08_Size K) p0 r h
/-! ### isochrone/isochroneref10.with -/
def r10_with (K : Nat) (p0 : List ByteArray) (p1 : ByteArray) : Option (List ByteArray) := ((iter (S := Bool × Int × (List ByteArray)) (R := (Bool × (List ByteArray))) K (fun again (i1_0, i1_1, i1_2) => 
    if (decide (i1_1 < (p0.length : Int))) then
      ((
        ((
          ((
            if (!i1_0) then
              (idx p0 i1_1).bind fun x13 => 
              some (!Op.bytesLess x13.toList p1.toList)
            else
              some false) : Option Bool).bind (fun v10_0 => 
          if v10_0 then
            (appO 16 i1_2 [p1]).bind fun l16 => 
            some (true, l16)
          else
            some (i1_0, i1_2))) : Option (Bool × (List ByteArray))).bind (fun (v8_0, v8_1) => 
        (idx p0 i1_1).bind fun x18 => 
        if (!(x18.toList == p1.toList)) then
          (appO 16 v8_1 [x18]).bind fun l21 => 
          some (l21, v8_0)
        else
          some (v8_1, v8_0))) : Option ((List ByteArray) × Bool)).bind (fun (v6_0, v6_1) => 
      again (v6_1, IntKind.wrap .i64 (i1_1 + (1 : Int)), v6_0))
    else
      some (i1_0, i1_2)) (false, (0 : Int), [])) : Option (Bool × (List ByteArray))).bind (fun (e2_0, e2_1) => 
  if (!e2_0) then
    (appO 16 e2_1 [p1]).bind fun l24 => 
    some l24
  else
    some e2_1)
set_option maxHeartbeats 4000000 in
theorem r10_with_ok {K : Nat} {p0 : List ByteArray} {p1 : ByteArray} {r : (List ByteArray)} (h : r10_with K p0 p1 = some r) : Cn Tryz.prog 120 [.d (slD strV p0), .d (.val (.string p1))] (.d (slD strV r)) := by
  refine Cn.oz Tryz.func120 Tryz.call120 Tryz.ntmps120 Tryz.results120 fun hfit => ?_
  unfold r10_with at h
  refine AW.kr [] [0, 1] ?_
  refine AW.kr [] [0, 1] ?_
  refine AW.kr [] [0, 1, 5] ?_
  refine AW.ks [] [0, 1, 5, 6] ?_
  refine AW.one ?_
  refine AW.ro ?_
  refine AW.ks [] [0, 1, 5, 6, 7] ?_
  refine AW.lm h (fun (e2_0, e2_1) => [(1, vS p1), (5, accV 0 1 ((e2_1.map strV).map (·.map .d))), (6, vB e2_0)]) (fun (e2_0, e2_1) => [accO 1 ((e2_1.map strV).map (·.map .d))]) (fun (i1_0, i1_1, i1_2) => [(0, vL strV p0), (1, vS p1), (5, accV 0 1 ((i1_2.map strV).map (·.map .d))), (6, vB i1_0), (7, vI i1_1)]) (fun (i1_0, i1_1, i1_2) => [accO 1 ((i1_2.map strV).map (·.map .d))]) [1000] (fun oJ4 again ⟨i1_0, i1_1, i1_2⟩ h => ?_) fun ⟨e2_0, e2_1⟩ h => ?_
  · try dsimp only at h
    refine AW.one ?_
    refine AW.ro ?_
    refine AW.ks [0] [0, 1, 5, 6, 7, 11] ?_
    refine AW.tt h (fun hb5 h => ?_) fun hb5 h => ?_
    · refine AW.sk ?_
      refine AW.ks [0] [0, 1, 5, 6, 7] ?_
      refine AW.jn h (fun (v6_0, v6_1) => [(0, vL strV p0), (1, vS p1), (5, accV 0 1 ((v6_0.map strV).map (·.map .d))), (6, vB v6_1), (7, vI i1_1)]) (fun (v6_0, v6_1) => [accO 1 ((v6_0.map strV).map (·.map .d))]) (fun oJ7 h => ?_) fun ⟨v6_0, v6_1⟩ h => ?_
      · refine AW.block ?_
        refine AW.jn h (fun (v8_0, v8_1) => [(0, vL strV p0), (1, vS p1), (5, accV 0 1 ((v8_1.map strV).map (·.map .d))), (6, vB v8_0), (7, vI i1_1)]) (fun (v8_0, v8_1) => [accO 1 ((v8_1.map strV).map (·.map .d))]) (fun oJ9 h => ?_) fun ⟨v8_0, v8_1⟩ h => ?_
        · refine AW.jn h (fun v10_0 => [(0, vL strV p0), (1, vS p1), (5, accV 0 1 ((i1_2.map strV).map (·.map .d))), (6, vB i1_0), (7, vI i1_1), (23, vB v10_0)]) (fun v10_0 => [accO 1 ((i1_2.map strV).map (·.map .d))]) (fun oJ11 h => ?_) fun v10_0 h => ?_
          · refine AW.rp ?_
            refine sK h (fun hb12 h => ?_) fun hb12 h => ?_
            · refine bx h fun x13 h0 h1 h => ?_
              exact ja [0] h
            exact ja [0] h
          refine AW.tk h (fun hb15 h => ?_) fun hb15 h => ?_
          · refine AW.ro ?_
            refine ag (f := strV) h fun l16 hx17 h => ?_
            refine AW.ks [4] [0, 1, 5, 7] ?_
            refine AW.rp ?_
            exact ja [0] h
          exact ja [0] h
        try dsimp only at h
        refine AW.ro ?_
        refine bx h fun x18 h0 h1 h => ?_
        refine AW.ks [0] [0, 1, 5, 6, 7, 33] ?_
        refine AW.tk h (fun hb20 h => ?_) fun hb20 h => ?_
        · refine AW.rp ?_
          refine ag (f := strV) h fun l21 hx22 h => ?_
          exact ja [7] h
        exact ja [0] h
      try dsimp only at h
      refine AW.rp ?_
      exact na [0] h
    refine AW.ex ?_
    exact ja [0] h
  try dsimp only at h
  refine AW.ks [0] [1, 5, 6] ?_
  refine AW.one ?_
  refine AW.ro ?_
  refine AW.ks [0] [1, 5, 42] ?_
  refine AW.tk h (fun hb23 h => ?_) fun hb23 h => ?_
  · refine AW.rp ?_
    refine ag (f := strV) h fun l24 hx25 h => ?_
    refine AW.kr [4] [5] ?_
    refine AW.ret ?_
    cases h; refine nz ?_; exact sealAcc (by simp only [go_sem, reduceEqDiff, reduceAdd, reduceSub, reduceMul, reduceLeDiff, reduceLT, Nat.reduceBEq, reduceIte])
  refine AW.kr [0] [5] ?_
  refine AW.ret ?_
  cases h; refine nz ?_; exact sealAcc (by simp only [go_sem, reduceEqDiff, reduceAdd, reduceSub, reduceMul, reduceLeDiff, reduceLT, Nat.reduceBEq, reduceIte])
/-! ### isochrone/isochroneref10.both -/
def r10_both (K : Nat) (p0 : List ByteArray) (p1 : List ByteArray) : Option (List ByteArray) := ((iter (S := (List ByteArray) × Int) (R := (List ByteArray)) K (fun again (i1_0, i1_1) => 
    if (decide (i1_1 < (p1.length : Int))) then
      (idx p1 i1_1).bind fun x6 => 
      (r10_with K i1_0 x6).bind fun r8 => 
      again (r8, IntKind.wrap .i64 (i1_1 + (1 : Int)))
    else
      some i1_0) (p0, (0 : Int))) : Option (List ByteArray)).bind (fun e2_0 => 
  some e2_0)
set_option maxHeartbeats 4000000 in
theorem r10_both_ok {K : Nat} {p0 : List ByteArray} {p1 : List ByteArray} {r : (List ByteArray)} (h : r10_both K p0 p1 = some r) : Cn Tryz.prog 106 [.d (slD strV p0), .d (slD strV p1)] (.d (slD strV r)) := by
  refine Cn.oz Tryz.func106 Tryz.call106 Tryz.ntmps106 Tryz.results106 fun hfit => ?_
  unfold r10_both at h
  refine AW.kr [] [0, 1] ?_
  refine AW.kr [] [0, 1] ?_
  refine AW.ks [] [1, 5] ?_
  refine AW.one ?_
  refine AW.ro ?_
  refine AW.ks [] [1, 5, 6] ?_
  refine AW.lm h (fun e2_0 => [(5, vL strV e2_0)]) (fun e2_0 => []) (fun (i1_0, i1_1) => [(1, vL strV p1), (5, vL strV i1_0), (6, vI i1_1)]) (fun (i1_0, i1_1) => []) [] (fun oJ4 again ⟨i1_0, i1_1⟩ h => ?_) fun e2_0 h => ?_
  · try dsimp only at h
    refine AW.one ?_
    refine AW.ro ?_
    refine AW.ks [] [1, 5, 6, 11] ?_
    refine AW.tt h (fun hb5 h => ?_) fun hb5 h => ?_
    · refine AW.sk ?_
      refine AW.ks [] [1, 5, 6] ?_
      refine AW.one ?_
      refine AW.block ?_
      refine AW.rp ?_
      refine bx h fun x6 h0 h1 h => ?_
      refine cm h r10_with_ok fun r8 hx9 h => ?_
      refine AW.ks [] [1, 5, 6] ?_
      refine AW.rp ?_
      exact na [] h
    refine AW.ex ?_
    exact ja [] h
  refine AW.kr [] [5] ?_
  refine AW.ret ?_
  cases h; refine nz ?_; exact .same _
/-! ### isochrone/isochroneref10.listed -/
def r10_listed (K : Nat) (p0 : List ByteArray) (p1 : ByteArray) : Option Bool := ((iter (S := Int) (R := Out Unit _) K (fun again i1_0 => 
    if (decide (i1_0 < (p0.length : Int))) then
      (idx p0 i1_0).bind fun x6 => 
      if (x6.toList == p1.toList) then
        outM (
          some true)
      else
        again (IntKind.wrap .i64 (i1_0 + (1 : Int)))
    else
      some (.go ())) (0 : Int)) : Option (Out Unit _)).bind (Out.fin fun _ => 
  some false)
set_option maxHeartbeats 4000000 in
theorem r10_listed_ok {K : Nat} {p0 : List ByteArray} {p1 : ByteArray} {r : Bool} (h : r10_listed K p0 p1 = some r) : Cn Tryz.prog 103 [.d (slD strV p0), .d (.val (.string p1))] (.d (.val (.bool r))) := by
  refine Cn.oz Tryz.func103 Tryz.call103 Tryz.ntmps103 Tryz.results103 fun hfit => ?_
  unfold r10_listed at h
  refine AW.kr [] [0, 1] ?_
  refine AW.ks [] [0, 1] ?_
  refine AW.one ?_
  refine AW.ro ?_
  refine AW.ks [] [0, 1, 5] ?_
  refine AW.lp h (fun _ => []) (fun _ => []) (fun i1_0 => [(0, vL strV p0), (1, vS p1), (5, vI i1_0)]) (fun i1_0 => []) [] (fun oJ4 hJ4 again i1_0 h => ?_) fun ⟨⟩ h => ?_
  · refine AW.one ?_
    refine AW.ro ?_
    refine AW.ks [] [0, 1, 5, 9] ?_
    refine AW.tt h (fun hb5 h => ?_) fun hb5 h => ?_
    · refine AW.sk ?_
      refine AW.ks [] [0, 1, 5] ?_
      refine AW.one ?_
      refine AW.block ?_
      refine AW.ro ?_
      refine bx h fun x6 h0 h1 h => ?_
      refine AW.ks [] [0, 1, 5, 17] ?_
      refine AW.tk h (fun hb8 h => ?_) fun hb8 h => ?_
      · refine AW.ro ?_
        refine AW.ret ?_
        have h := up h hJ4
        cases h; refine nz ?_; exact .same _
      refine AW.ks [] [0, 1, 5] ?_
      refine AW.rp ?_
      exact na [] h
    refine AW.ex ?_
    exact jo [] h
  refine AW.kr [] [] ?_
  refine AW.ret ?_
  cases h; refine nz ?_; exact .same _
/-! ### isochrone/isochroneref10.kept -/
def r10_kept (K : Nat) (p0 : List ByteArray) (p1 : List ByteArray) (p2 : Bool) : Option (List ByteArray) := ((iter (S := Int × (List ByteArray)) (R := (List ByteArray)) K (fun again (i1_0, i1_1) => 
    if (decide (i1_0 < (p0.length : Int))) then
      ((
        (idx p0 i1_0).bind fun x8 => 
        (r10_listed K p1 x8).bind fun r10 => 
        if (r10 == p2) then
          (appO 16 i1_1 [x8]).bind fun l13 => 
          some l13
        else
          some i1_1) : Option (List ByteArray)).bind (fun v6_0 => 
      again (IntKind.wrap .i64 (i1_0 + (1 : Int)), v6_0))
    else
      some i1_1) ((0 : Int), [])) : Option (List ByteArray)).bind (fun e2_0 => 
  some e2_0)
set_option maxHeartbeats 4000000 in
theorem r10_kept_ok {K : Nat} {p0 : List ByteArray} {p1 : List ByteArray} {p2 : Bool} {r : (List ByteArray)} (h : r10_kept K p0 p1 p2 = some r) : Cn Tryz.prog 105 [.d (slD strV p0), .d (slD strV p1), .d (.val (.bool p2))] (.d (slD strV r)) := by
  refine Cn.oz Tryz.func105 Tryz.call105 Tryz.ntmps105 Tryz.results105 fun hfit => ?_
  unfold r10_kept at h
  refine AW.kr [] [0, 1, 2] ?_
  refine AW.kr [] [0, 1, 2] ?_
  refine AW.ks [] [0, 1, 2, 7] ?_
  refine AW.one ?_
  refine AW.ro ?_
  refine AW.ks [] [0, 1, 2, 7, 8] ?_
  refine AW.lm h (fun e2_0 => [(7, accV 0 1 ((e2_0.map strV).map (·.map .d)))]) (fun e2_0 => [accO 1 ((e2_0.map strV).map (·.map .d))]) (fun (i1_0, i1_1) => [(0, vL strV p0), (1, vL strV p1), (2, vB p2), (7, accV 0 1 ((i1_1.map strV).map (·.map .d))), (8, vI i1_0)]) (fun (i1_0, i1_1) => [accO 1 ((i1_1.map strV).map (·.map .d))]) [1000] (fun oJ4 again ⟨i1_0, i1_1⟩ h => ?_) fun e2_0 h => ?_
  · try dsimp only at h
    refine AW.one ?_
    refine AW.ro ?_
    refine AW.ks [0] [0, 1, 2, 7, 8, 12] ?_
    refine AW.tt h (fun hb5 h => ?_) fun hb5 h => ?_
    · refine AW.sk ?_
      refine AW.ks [0] [0, 1, 2, 7, 8] ?_
      refine AW.jn h (fun v6_0 => [(0, vL strV p0), (1, vL strV p1), (2, vB p2), (7, accV 0 1 ((v6_0.map strV).map (·.map .d))), (8, vI i1_0)]) (fun v6_0 => [accO 1 ((v6_0.map strV).map (·.map .d))]) (fun oJ7 h => ?_) fun v6_0 h => ?_
      · refine AW.block ?_
        refine AW.ro ?_
        refine bx h fun x8 h0 h1 h => ?_
        refine cm h r10_listed_ok fun r10 hx11 h => ?_
        refine AW.ks [0] [0, 1, 2, 7, 8, 22] ?_
        refine AW.tk h (fun hb12 h => ?_) fun hb12 h => ?_
        · refine AW.rp ?_
          refine ag (f := strV) h fun l13 hx14 h => ?_
          exact ja [7] h
        exact ja [0] h
      refine AW.rp ?_
      exact na [0] h
    refine AW.ex ?_
    exact ja [0] h
  refine AW.kr [0] [7] ?_
  refine AW.ret ?_
  cases h; refine nz ?_; exact sealAcc (by simp only [go_sem, reduceEqDiff, reduceAdd, reduceSub, reduceMul, reduceLeDiff, reduceLT, Nat.reduceBEq, reduceIte])
/-! ### isochrone/isochroneref10.join -/
def r10_join (K : Nat) (p0 : Api_NamesA) (p1 : Api_NamesA) : Option Api_NamesA := ((
    ((
      if p0.all then
        some p1.all
      else
        some false) : Option Bool).bind (fun v3_0 => 
    if v3_0 then
      (r10_kept K p0.list p1.list true).bind fun r7 => 
      outM (
        some (Api_NamesA.mk true r7))
    else
      if p0.all then
        (r10_kept K p0.list p1.list false).bind fun r10 => 
        outM (
          some (Api_NamesA.mk true r10))
      else
        if p1.all then
          (r10_kept K p1.list p0.list false).bind fun r13 => 
          outM (
            some (Api_NamesA.mk true r13))
        else
          some (.go ()))) : Option (Out Unit _)).bind (Out.fin fun _ => 
  (r10_both K p0.list p1.list).bind fun r15 => 
  some (Api_NamesA.mk false r15))
set_option maxHeartbeats 4000000 in
theorem r10_join_ok {K : Nat} {p0 : Api_NamesA} {p1 : Api_NamesA} {r : Api_NamesA} (h : r10_join K p0 p1 = some r) : Cn Tryz.prog 86 [aggV p0.enc, aggV p1.enc] (aggV r.enc) := by
  refine Cn.oz Tryz.func86 Tryz.call86 Tryz.ntmps86 Tryz.results86 fun hfit => ?_
  unfold r10_join at h
  refine AW.kr [] [0, 1] ?_
  refine AW.ks [0, 1, 2] [2, 3, 4] ?_
  refine AW.jo h (fun _ => [(2, .ptr 0 2 0 0), (3, .ptr 1 2 0 0), (4, .ptr 2 2 0 0)]) (fun _ => [vE p0.enc, vE p1.enc, some ⟨2, [[vB false, .d (.val (.slice none 0 0))]]⟩]) (fun oJ2 h hJ2 => ?_) fun ⟨⟩ h => ?_
  · refine AW.block ?_
    refine AW.jn h (fun v3_0 => [(2, .ptr 0 2 0 0), (3, .ptr 1 2 0 0), (4, .ptr 2 2 0 0), (5, vB v3_0)]) (fun v3_0 => [vE p0.enc, vE p1.enc, some ⟨2, [[vB false, .d (.val (.slice none 0 0))]]⟩]) (fun oJ4 h => ?_) fun v3_0 h => ?_
    · refine AW.rp ?_
      refine sK h (fun hb5 h => ?_) fun hb5 h => ?_
      · exact ja [0, 1, 2] h
      exact ja [0, 1, 2] h
    refine AW.tt h (fun hb6 h => ?_) fun hb6 h => ?_
    · refine AW.ro ?_
      refine cm h r10_kept_ok fun r7 hx8 h => ?_
      refine AW.ret ?_
      have h := up h hJ2
      cases h; refine nz ?_; exact .same _
    refine AW.ro ?_
    refine AW.ks [0, 1, 2] [2, 3, 4, 18] ?_
    refine AW.tt h (fun hb9 h => ?_) fun hb9 h => ?_
    · refine AW.ro ?_
      refine cm h r10_kept_ok fun r10 hx11 h => ?_
      refine AW.ret ?_
      have h := up h hJ2
      cases h; refine nz ?_; exact .same _
    refine AW.ro ?_
    refine AW.ks [0, 1, 2] [2, 3, 4, 27] ?_
    refine AW.tk h (fun hb12 h => ?_) fun hb12 h => ?_
    · refine AW.ro ?_
      refine cm h r10_kept_ok fun r13 hx14 h => ?_
      refine AW.ret ?_
      have h := up h hJ2
      cases h; refine nz ?_; exact .same _
    exact jo [0, 1, 2] h
  refine AW.ro ?_
  refine cm h r10_both_ok fun r15 hx16 h => ?_
  refine AW.ret ?_
  cases h; refine nz ?_; exact .same _
/-! ### isochrone/isochroneref10.other -/
def r10_other (K : Nat) (p0 : Api_NamesA) : Option Api_NamesA := some (Api_NamesA.mk (!p0.all) p0.list)
set_option maxHeartbeats 4000000 in
theorem r10_other_ok {K : Nat} {p0 : Api_NamesA} {r : Api_NamesA} (h : r10_other K p0 = some r) : Cn Tryz.prog 104 [aggV p0.enc] (aggV r.enc) := by
  refine Cn.oz Tryz.func104 Tryz.call104 Tryz.ntmps104 Tryz.results104 fun hfit => ?_
  unfold r10_other at h
  refine AW.kr [] [0] ?_
  refine AW.kr [0, 1] [1, 2] ?_
  refine AW.ret ?_
  cases h; refine nz ?_; exact .same _
/-! ### isochrone/isochroneref10.meet -/
def r10_meet (K : Nat) (p0 : Api_NamesA) (p1 : Api_NamesA) : Option Api_NamesA := (r10_other K p0).bind fun r1 => 
  (r10_other K p1).bind fun r3 => 
  (r10_join K r1 r3).bind fun r5 => 
  (r10_other K r5).bind fun r7 => 
  some r7
set_option maxHeartbeats 4000000 in
theorem r10_meet_ok {K : Nat} {p0 : Api_NamesA} {p1 : Api_NamesA} {r : Api_NamesA} (h : r10_meet K p0 p1 = some r) : Cn Tryz.prog 89 [aggV p0.enc, aggV p1.enc] (aggV r.enc) := by
  refine Cn.oz Tryz.func89 Tryz.call89 Tryz.ntmps89 Tryz.results89 fun hfit => ?_
  unfold r10_meet at h
  refine AW.kr [] [0, 1] ?_
  refine AW.kr [0, 1, 2] [2, 3, 4] ?_
  refine pm h r10_other_ok fun r1 hx2 h => ?_
  refine pm h r10_other_ok fun r3 hx4 h => ?_
  refine pm h r10_join_ok fun r5 hx6 h => ?_
  refine pm h r10_other_ok fun r7 hx8 h => ?_
  refine AW.ret ?_
  cases h; refine nz ?_; exact .same _
/-! ### isochrone/isochroneref10.minus -/
def r10_minus (K : Nat) (p0 : Api_NamesA) (p1 : Api_NamesA) : Option Api_NamesA := (r10_other K p1).bind fun r1 => 
  (r10_meet K p0 r1).bind fun r3 => 
  some r3
set_option maxHeartbeats 4000000 in
theorem r10_minus_ok {K : Nat} {p0 : Api_NamesA} {p1 : Api_NamesA} {r : Api_NamesA} (h : r10_minus K p0 p1 = some r) : Cn Tryz.prog 85 [aggV p0.enc, aggV p1.enc] (aggV r.enc) := by
  refine Cn.oz Tryz.func85 Tryz.call85 Tryz.ntmps85 Tryz.results85 fun hfit => ?_
  unfold r10_minus at h
  refine AW.kr [] [0, 1] ?_
  refine AW.kr [0, 1, 2] [2, 3, 4] ?_
  refine pm h r10_other_ok fun r1 hx2 h => ?_
  refine pm h r10_meet_ok fun r3 hx4 h => ?_
  refine AW.ret ?_
  cases h; refine nz ?_; exact .same _
/-! ### isochrone/isochroneref10.only -/
def r10_only (K : Nat) (p0 : ByteArray) : Option Api_NamesA := some (Api_NamesA.mk false [p0])
set_option maxHeartbeats 4000000 in
theorem r10_only_ok {K : Nat} {p0 : ByteArray} {r : Api_NamesA} (h : r10_only K p0 = some r) : Cn Tryz.prog 83 [.d (.val (.string p0))] (aggV r.enc) := by
  refine Cn.oz Tryz.func83 Tryz.call83 Tryz.ntmps83 Tryz.results83 fun hfit => ?_
  unfold r10_only at h
  refine AW.kr [] [0] ?_
  refine AW.kr [0] [0, 2] ?_
  refine AW.ret ?_
  cases h; refine nz ?_; exact .same _
/-! ### isochrone/isochroneref10.must -/
def r10_must_body (K : Nat) (self47 : NodeA → Option Api_NamesA) (p0 : NodeA) : Option Api_NamesA := ((
    ((
      if (p0.op == (50 : Int)) then
        some (p0.op == (50 : Int))
      else
        some (p0.op == (52 : Int))) : Option Bool).bind (fun v3_0 => 
    if v3_0 then
      (r10_only K p0.name).bind fun r7 => 
      outM (
        some r7)
    else
      if (p0.op == (51 : Int)) then
        (catO p0.name (⟨#[39]⟩ : ByteArray)).bind fun s10 => 
        (r10_only K s10).bind fun r12 => 
        outM (
          some r12)
      else
        if (p0.op == (54 : Int)) then
          ((iter (S := Int × Api_NamesA) (R := Api_NamesA) K (fun again (i19_0, i19_1) => 
            if (decide (i19_0 < (p0.kids.length : Int))) then
              ((
                (idx p0.kids i19_0).bind fun x26 => 
                if (x26.op == (55 : Int)) then
                  (r10_only K x26.name).bind fun r29 => 
                  (catO x26.name (⟨#[39]⟩ : ByteArray)).bind fun s31 => 
                  (r10_only K s31).bind fun r33 => 
                  (r10_join K r29 r33).bind fun r35 => 
                  (r10_join K i19_1 r35).bind fun r37 => 
                  some r37
                else
                  some i19_1) : Option Api_NamesA).bind (fun v24_0 => 
              again (IntKind.wrap .i64 (i19_0 + (1 : Int)), v24_0))
            else
              some i19_1) ((0 : Int), (Api_NamesA.mk false []))) : Option Api_NamesA).bind (fun e20_0 => 
          outM (
            some e20_0))
        else
          if (p0.op == (57 : Int)) then
            (idx p0.kids (0 : Int)).bind fun x40 => 
            (self47 (x40)).bind fun r42 => 
            (idx p0.kids (1 : Int)).bind fun x44 => 
            (self47 (x44)).bind fun r46 => 
            (r10_join K r42 r46).bind fun r48 => 
            outM (
              some r48)
          else
            if (p0.op == (58 : Int)) then
              (idx p0.kids (0 : Int)).bind fun x51 => 
              (self47 (x51)).bind fun r53 => 
              (idx p0.kids (1 : Int)).bind fun x55 => 
              (self47 (x55)).bind fun r57 => 
              (r10_meet K r53 r57).bind fun r59 => 
              outM (
                some r59)
            else
              if (p0.op == (60 : Int)) then
                (idx p0.kids (0 : Int)).bind fun x62 => 
                (self47 (x62)).bind fun r64 => 
                outM (
                  some r64)
              else
                some (.go ()))) : Option (Out Unit _)).bind (Out.fin fun _ => 
  some (Api_NamesA.mk false []))
set_option maxHeartbeats 4000000 in
theorem r10_must_step (K : Nat) (self47 : NodeA → Option Api_NamesA) (hself47 : ∀ (q : NodeA) (r : Api_NamesA), self47 q = some r → Cn Tryz.prog 47 [aggV q.enc] (aggV r.enc)) (p0 : NodeA) (r : Api_NamesA) (h : r10_must_body K self47 p0 = some r) : Cn Tryz.prog 47 [aggV p0.enc] (aggV r.enc) := by
  refine Cn.oz Tryz.func47 Tryz.call47 Tryz.ntmps47 Tryz.results47 fun hfit => ?_
  unfold r10_must_body at h
  refine AW.kr [] [0] ?_
  refine AW.ks [0, 1] [1, 2] ?_
  refine AW.jo h (fun _ => [(2, .ptr 0 2 0 0)]) (fun _ => [some ⟨2, [[vB false, .d (.val (.slice none 0 0))]]⟩]) (fun oJ2 h hJ2 => ?_) fun ⟨⟩ h => ?_
  · refine AW.ro ?_
    refine AW.ks [0, 1] [1, 2, 6] ?_
    refine AW.block ?_
    refine AW.jn h (fun v3_0 => [(1, .ptr 0 6 0 0), (2, .ptr 1 2 0 0), (6, vI p0.op), (7, vB v3_0)]) (fun v3_0 => [vE p0.enc, some ⟨2, [[vB false, .d (.val (.slice none 0 0))]]⟩]) (fun oJ4 h => ?_) fun v3_0 h => ?_
    · refine AW.ro ?_
      refine AW.ks [0, 1] [1, 2, 6, 7] ?_
      refine AW.tt h (fun hb5 h => ?_) fun hb5 h => ?_
      · refine AW.sk ?_
        exact ja [0, 1] h
      refine AW.rp ?_
      exact ja [0, 1] h
    refine AW.tt h (fun hb6 h => ?_) fun hb6 h => ?_
    · refine AW.ro ?_
      refine cm h r10_only_ok fun r7 hx8 h => ?_
      refine AW.ret ?_
      have h := up h hJ2
      cases h; refine nz ?_; exact .same _
    refine AW.ro ?_
    refine AW.ks [0, 1] [1, 2, 6, 13] ?_
    refine AW.tt h (fun hb9 h => ?_) fun hb9 h => ?_
    · refine AW.ro ?_
      apply bE h; intro s10 hx11 h; have hx11 := bt hx11; refine ns ?_
      refine cm h r10_only_ok fun r12 hx13 h => ?_
      refine AW.ret ?_
      have h := up h hJ2
      cases h; refine nz ?_; exact .same _
    refine AW.ro ?_
    refine AW.ks [0, 1] [1, 2, 6, 19] ?_
    refine AW.tt h (fun hb14 h => ?_) fun hb14 h => ?_
    · refine AW.ro ?_
      refine AW.ks [0, 1, 2] [1, 2, 3] ?_
      refine AW.one ?_
      refine AW.ro ?_
      refine AW.ks [0, 1, 2] [1, 2, 3, 4] ?_
      refine AW.cutS [0, 1, 2] [] [] [(2, ⟨2, [[.d (.val (.bool false)), .d (slD strV [])]]⟩)] [(1, .ptr 0 6 0 0), (2, .ptr 1 2 0 0), (3, .ptr 2 2 0 0), (4, vI (0 : Int))] [vE p0.enc, some ⟨2, [[vB false, .d (.val (.slice none 0 0))]]⟩, some ⟨2, [[vB false, vL strV []]]⟩] (by simp only [go_sem, reduceEqDiff, reduceAdd, reduceSub, reduceMul, reduceLeDiff, reduceLT, Nat.reduceBEq, reduceIte, sealL_cons, sealL_nil]) (by simp only [go_sem, reduceEqDiff, reduceAdd, reduceSub, reduceMul, reduceLeDiff, reduceLT, Nat.reduceBEq, reduceIte, sealH_cons, sealH_nil]; exact ⟨⟨.same _, .nil, trivial⟩, trivial⟩) (by simp only [go_sem, reduceEqDiff, reduceAdd, reduceSub, reduceMul, reduceLeDiff, reduceLT, Nat.reduceBEq, reduceIte]) ?_
      refine AW.lm h (fun e20_0 => [(2, .ptr 0 2 0 0), (3, .ptr 1 2 0 0)]) (fun e20_0 => [some ⟨2, [[vB false, .d (.val (.slice none 0 0))]]⟩, vE e20_0.enc]) (fun (i19_0, i19_1) => [(1, .ptr 0 6 0 0), (2, .ptr 1 2 0 0), (3, .ptr 2 2 0 0), (4, vI i19_0)]) (fun (i19_0, i19_1) => [vE p0.enc, some ⟨2, [[vB false, .d (.val (.slice none 0 0))]]⟩, vE i19_1.enc]) [0, 1, 2] (fun oJ22 again ⟨i19_0, i19_1⟩ h => ?_) fun e20_0 h => ?_
      · try dsimp only at h
        refine AW.one ?_
        refine AW.ro ?_
        refine AW.ks [0, 1, 2] [1, 2, 3, 4, 25] ?_
        refine AW.tt h (fun hb23 h => ?_) fun hb23 h => ?_
        · refine AW.sk ?_
          refine AW.ks [0, 1, 2] [1, 2, 3, 4] ?_
          refine AW.jn h (fun v24_0 => [(1, .ptr 0 6 0 0), (2, .ptr 1 2 0 0), (3, .ptr 2 2 0 0), (4, vI i19_0)]) (fun v24_0 => [vE p0.enc, some ⟨2, [[vB false, .d (.val (.slice none 0 0))]]⟩, vE v24_0.enc]) (fun oJ25 h => ?_) fun v24_0 h => ?_
          · refine AW.block ?_
            refine AW.ro ?_
            refine bx h fun x26 h0 h1 h => ?_
            refine AW.ks [0, 1, 2] [1, 2, 3, 4, 34] ?_
            refine AW.tk h (fun hb28 h => ?_) fun hb28 h => ?_
            · refine AW.rp ?_
              refine pm h r10_only_ok fun r29 hx30 h => ?_
              apply bE h; intro s31 hx32 h; have hx32 := bt hx32; refine ns ?_
              refine pm h r10_only_ok fun r33 hx34 h => ?_
              refine pm h r10_join_ok fun r35 hx36 h => ?_
              refine pm h r10_join_ok fun r37 hx38 h => ?_
              exact ja [0, 1, 2] h
            exact ja [0, 1, 2] h
          refine AW.rp ?_
          exact na [0, 1, 2] h
        refine AW.ex ?_
        exact ja [1, 2] h
      refine AW.kr [0, 1] [2, 3] ?_
      refine AW.ret ?_
      have h := up h hJ2
      cases h; refine nz ?_; exact .same _
    refine AW.ro ?_
    refine AW.ks [0, 1] [1, 2, 6, 54] ?_
    refine AW.tt h (fun hb39 h => ?_) fun hb39 h => ?_
    · refine AW.ro ?_
      refine bx h fun x40 h0 h1 h => ?_
      refine pm h (hself47 _ _) fun r42 hx43 h => ?_
      refine bx h fun x44 h0 h1 h => ?_
      refine pm h (hself47 _ _) fun r46 hx47 h => ?_
      refine pm h r10_join_ok fun r48 hx49 h => ?_
      refine AW.ret ?_
      have h := up h hJ2
      cases h; refine nz ?_; exact .same _
    refine AW.ro ?_
    refine AW.ks [0, 1] [1, 2, 6, 67] ?_
    refine AW.tt h (fun hb50 h => ?_) fun hb50 h => ?_
    · refine AW.ro ?_
      refine bx h fun x51 h0 h1 h => ?_
      refine pm h (hself47 _ _) fun r53 hx54 h => ?_
      refine bx h fun x55 h0 h1 h => ?_
      refine pm h (hself47 _ _) fun r57 hx58 h => ?_
      refine pm h r10_meet_ok fun r59 hx60 h => ?_
      refine AW.ret ?_
      have h := up h hJ2
      cases h; refine nz ?_; exact .same _
    refine AW.ro ?_
    refine AW.ks [0, 1] [1, 2, 80] ?_
    refine AW.tk h (fun hb61 h => ?_) fun hb61 h => ?_
    · refine AW.ro ?_
      refine bx h fun x62 h0 h1 h => ?_
      refine cm h (hself47 _ _) fun r64 hx65 h => ?_
      refine AW.ret ?_
      have h := up h hJ2
      cases h; refine nz ?_; exact .same _
    exact jo [1] h
  refine AW.ro ?_
  refine AW.ret ?_
  cases h; refine nz ?_; exact .aggL ⟨.same _, .nil, trivial⟩
def r10_must (K : Nat) (p0 : NodeA) : Option Api_NamesA := iter K (fun self q => r10_must_body K self q) p0
theorem key_r10_must {K : Nat} (k : Nat) : (∀ (q : NodeA) (r : Api_NamesA), iter k (fun self q => r10_must_body K self q) q = some r → Cn Tryz.prog 47 [aggV q.enc] (aggV r.enc)) := by
  induction k with
  | zero => exact fun q r h => by cases h
  | succ k ih => exact fun q r h => r10_must_step K _ ih q r h
theorem r10_must_ok {K : Nat} {p0 : NodeA} {r : Api_NamesA} (h : r10_must K p0 = some r) : Cn Tryz.prog 47 [aggV p0.enc] (aggV r.enc) := (key_r10_must K) p0 r h
/-! ### isochrone/isochroneref10.primed -/
def r10_primed (K : Nat) (p0 : Api_NamesA) : Option Api_NamesA := ((iter (S := Int × Api_NamesA) (R := Api_NamesA) K (fun again (i1_0, i1_1) => 
    if (decide (i1_0 < (p0.list.length : Int))) then
      ((
        (idx p0.list i1_0).bind fun x8 => 
        (strAt x8 (IntKind.wrap .i64 ((x8.size : Int) - (1 : Int)))).bind fun c10 => 
        if ((c10.toNat : Int) != (39 : Int)) then
          (catO x8 (⟨#[39]⟩ : ByteArray)).bind fun s13 => 
          (r10_only K s13).bind fun r15 => 
          (r10_join K i1_1 r15).bind fun r17 => 
          some r17
        else
          some i1_1) : Option Api_NamesA).bind (fun v6_0 => 
      again (IntKind.wrap .i64 (i1_0 + (1 : Int)), v6_0))
    else
      some i1_1) ((0 : Int), p0)) : Option Api_NamesA).bind (fun e2_0 => 
  some e2_0)
set_option maxHeartbeats 4000000 in
theorem r10_primed_ok {K : Nat} {p0 : Api_NamesA} {r : Api_NamesA} (h : r10_primed K p0 = some r) : Cn Tryz.prog 84 [aggV p0.enc] (aggV r.enc) := by
  refine Cn.oz Tryz.func84 Tryz.call84 Tryz.ntmps84 Tryz.results84 fun hfit => ?_
  unfold r10_primed at h
  refine AW.kr [] [0] ?_
  refine AW.kr [0, 1] [1, 2] ?_
  refine AW.ks [0, 1, 3] [1, 2, 3] ?_
  refine AW.one ?_
  refine AW.ro ?_
  refine AW.ks [0, 1, 2] [1, 2, 3, 4] ?_
  refine AW.lm h (fun e2_0 => [(2, .ptr 0 2 0 0), (3, .ptr 1 2 0 0)]) (fun e2_0 => [some ⟨2, [[vB false, .d (.val (.slice none 0 0))]]⟩, vE e2_0.enc]) (fun (i1_0, i1_1) => [(1, .ptr 0 2 0 0), (2, .ptr 1 2 0 0), (3, .ptr 2 2 0 0), (4, vI i1_0)]) (fun (i1_0, i1_1) => [vE p0.enc, some ⟨2, [[vB false, .d (.val (.slice none 0 0))]]⟩, vE i1_1.enc]) [0, 1, 2] (fun oJ4 again ⟨i1_0, i1_1⟩ h => ?_) fun e2_0 h => ?_
  · try dsimp only at h
    refine AW.one ?_
    refine AW.ro ?_
    refine AW.ks [0, 1, 2] [1, 2, 3, 4, 11] ?_
    refine AW.tt h (fun hb5 h => ?_) fun hb5 h => ?_
    · refine AW.sk ?_
      refine AW.ks [0, 1, 2] [1, 2, 3, 4] ?_
      refine AW.jn h (fun v6_0 => [(1, .ptr 0 2 0 0), (2, .ptr 1 2 0 0), (3, .ptr 2 2 0 0), (4, vI i1_0)]) (fun v6_0 => [vE p0.enc, some ⟨2, [[vB false, .d (.val (.slice none 0 0))]]⟩, vE v6_0.enc]) (fun oJ7 h => ?_) fun v6_0 h => ?_
      · refine AW.block ?_
        refine AW.ro ?_
        refine bx h fun x8 h0 h1 h => ?_
        refine AW.kr [0, 1, 2] [1, 2, 3, 4, 5] ?_
        refine bb h fun c10 hx11 h => ?_
        refine AW.ks [0, 1, 2] [1, 2, 3, 4, 5, 24] ?_
        refine AW.tk h (fun hb12 h => ?_) fun hb12 h => ?_
        · refine AW.rp ?_
          apply bE h; intro s13 hx14 h; have hx14 := bt hx14; refine ns ?_
          refine pm h r10_only_ok fun r15 hx16 h => ?_
          refine pm h r10_join_ok fun r17 hx18 h => ?_
          exact ja [0, 1, 2] h
        exact ja [0, 1, 2] h
      refine AW.rp ?_
      exact na [0, 1, 2] h
    refine AW.ex ?_
    exact ja [1, 2] h
  refine AW.kr [0, 1] [2, 3] ?_
  refine AW.ret ?_
  cases h; refine nz ?_; exact .same _
/-! ### isochrone/isochroneref10.free -/
def r10_free_body (K : Nat) (self43 : NodeA → Option Api_NamesA) (p0 : NodeA) : Option Api_NamesA := ((
    if (p0.op == (2 : Int)) then
      (r10_only K p0.name).bind fun r4 => 
      outM (
        some r4)
    else
      if (p0.op == (3 : Int)) then
        (catO p0.name (⟨#[39]⟩ : ByteArray)).bind fun s7 => 
        (r10_only K s7).bind fun r9 => 
        outM (
          some r9)
      else
        ((
          if (p0.op == (11 : Int)) then
            some (p0.op == (11 : Int))
          else
            if (p0.op == (38 : Int)) then
              some (p0.op == (38 : Int))
            else
              if (p0.op == (61 : Int)) then
                some (p0.op == (61 : Int))
              else
                if (p0.op == (62 : Int)) then
                  some (p0.op == (62 : Int))
                else
                  some (p0.op == (56 : Int))) : Option Bool).bind (fun v11_0 => 
        if v11_0 then
          outM (
            some (Api_NamesA.mk true []))
        else
          ((
            if (p0.op == (12 : Int)) then
              some (p0.op == (12 : Int))
            else
              some (p0.op == (39 : Int))) : Option Bool).bind (fun v18_0 => 
          if v18_0 then
            (idx p0.kids (0 : Int)).bind fun x22 => 
            (self43 (x22)).bind fun r24 => 
            if r24.all then
              outM (
                some (Api_NamesA.mk true []))
            else
              (r10_primed K r24).bind fun r27 => 
              outM (
                some r27)
          else
            ((
              if (p0.op == (33 : Int)) then
                some (p0.op == (33 : Int))
              else
                some (p0.op == (34 : Int))) : Option Bool).bind (fun v29_0 => 
            if v29_0 then
              (idx p0.kids (0 : Int)).bind fun x33 => 
              (self43 (x33)).bind fun r35 => 
              (r10_only K p0.name).bind fun r37 => 
              (r10_minus K r35 r37).bind fun r39 => 
              outM (
                some r39)
            else
              ((
                if (p0.op == (35 : Int)) then
                  some (p0.op == (35 : Int))
                else
                  if (p0.op == (36 : Int)) then
                    some (p0.op == (36 : Int))
                  else
                    some (p0.op == (57 : Int))) : Option Bool).bind (fun v41_0 => 
              if v41_0 then
                (idx p0.kids (0 : Int)).bind fun x46 => 
                (self43 (x46)).bind fun r48 => 
                (idx p0.kids (1 : Int)).bind fun x50 => 
                (self43 (x50)).bind fun r52 => 
                (r10_must K x46).bind fun r54 => 
                (r10_minus K r52 r54).bind fun r56 => 
                (r10_join K r48 r56).bind fun r58 => 
                outM (
                  some r58)
              else
                some (.go ())))))) : Option (Out Unit _)).bind (Out.fin fun _ => 
  ((iter (S := Int × Api_NamesA) (R := Api_NamesA) K (fun again (i64_0, i64_1) => 
    if (decide (i64_0 < (p0.kids.length : Int))) then
      (idx p0.kids i64_0).bind fun x69 => 
      (self43 (x69)).bind fun r71 => 
      (r10_join K i64_1 r71).bind fun r73 => 
      again (IntKind.wrap .i64 (i64_0 + (1 : Int)), r73)
    else
      some i64_1) ((0 : Int), (Api_NamesA.mk false []))) : Option Api_NamesA).bind (fun e65_0 => 
  ((
    if (p0.op == (55 : Int)) then
      (r10_only K p0.name).bind fun r78 => 
      (r10_join K e65_0 r78).bind fun r80 => 
      some r80
    else
      some e65_0) : Option Api_NamesA).bind (fun v75_0 => 
  some v75_0)))
set_option maxHeartbeats 4000000 in
theorem r10_free_step (K : Nat) (self43 : NodeA → Option Api_NamesA) (hself43 : ∀ (q : NodeA) (r : Api_NamesA), self43 q = some r → Cn Tryz.prog 43 [aggV q.enc] (aggV r.enc)) (p0 : NodeA) (r : Api_NamesA) (h : r10_free_body K self43 p0 = some r) : Cn Tryz.prog 43 [aggV p0.enc] (aggV r.enc) := by
  refine Cn.oz Tryz.func43 Tryz.call43 Tryz.ntmps43 Tryz.results43 fun hfit => ?_
  unfold r10_free_body at h
  refine AW.kr [] [0] ?_
  refine AW.ks [0, 1] [1, 2] ?_
  refine AW.jo h (fun _ => [(1, .ptr 0 6 0 0), (2, .ptr 1 2 0 0)]) (fun _ => [vE p0.enc, some ⟨2, [[vB false, .d (.val (.slice none 0 0))]]⟩]) (fun oJ2 h hJ2 => ?_) fun ⟨⟩ h => ?_
  · refine AW.ro ?_
    refine AW.ks [0, 1] [1, 2, 7] ?_
    refine AW.block ?_
    refine AW.ro ?_
    refine AW.ks [0, 1] [1, 2, 7, 8] ?_
    refine AW.tt h (fun hb3 h => ?_) fun hb3 h => ?_
    · refine AW.ro ?_
      refine cm h r10_only_ok fun r4 hx5 h => ?_
      refine AW.ret ?_
      have h := up h hJ2
      cases h; refine nz ?_; exact .same _
    refine AW.ro ?_
    refine AW.ks [0, 1] [1, 2, 7, 13] ?_
    refine AW.tt h (fun hb6 h => ?_) fun hb6 h => ?_
    · refine AW.ro ?_
      apply bE h; intro s7 hx8 h; have hx8 := bt hx8; refine ns ?_
      refine cm h r10_only_ok fun r9 hx10 h => ?_
      refine AW.ret ?_
      have h := up h hJ2
      cases h; refine nz ?_; exact .same _
    refine AW.jn h (fun v11_0 => [(1, .ptr 0 6 0 0), (2, .ptr 1 2 0 0), (7, vI p0.op), (19, vB v11_0)]) (fun v11_0 => [vE p0.enc, some ⟨2, [[vB false, .d (.val (.slice none 0 0))]]⟩]) (fun oJ12 h => ?_) fun v11_0 h => ?_
    · refine AW.ro ?_
      refine AW.ks [0, 1] [1, 2, 7, 19] ?_
      refine AW.tt h (fun hb13 h => ?_) fun hb13 h => ?_
      · refine AW.sk ?_
        exact ja [0, 1] h
      refine AW.ro ?_
      refine AW.ks [0, 1] [1, 2, 7, 19] ?_
      refine AW.tt h (fun hb14 h => ?_) fun hb14 h => ?_
      · refine AW.sk ?_
        exact ja [0, 1] h
      refine AW.ro ?_
      refine AW.ks [0, 1] [1, 2, 7, 19] ?_
      refine AW.tt h (fun hb15 h => ?_) fun hb15 h => ?_
      · refine AW.sk ?_
        exact ja [0, 1] h
      refine AW.ro ?_
      refine AW.ks [0, 1] [1, 2, 7, 19] ?_
      refine AW.tt h (fun hb16 h => ?_) fun hb16 h => ?_
      · refine AW.sk ?_
        exact ja [0, 1] h
      refine AW.rp ?_
      exact ja [0, 1] h
    refine AW.tt h (fun hb17 h => ?_) fun hb17 h => ?_
    · refine AW.ro ?_
      refine AW.ret ?_
      have h := up h hJ2
      cases h; refine nz ?_; exact .aggL ⟨.same _, .nil, trivial⟩
    refine AW.jn h (fun v18_0 => [(1, .ptr 0 6 0 0), (2, .ptr 1 2 0 0), (7, vI p0.op), (26, vB v18_0)]) (fun v18_0 => [vE p0.enc, some ⟨2, [[vB false, .d (.val (.slice none 0 0))]]⟩]) (fun oJ19 h => ?_) fun v18_0 h => ?_
    · refine AW.ro ?_
      refine AW.ks [0, 1] [1, 2, 7, 26] ?_
      refine AW.tt h (fun hb20 h => ?_) fun hb20 h => ?_
      · refine AW.sk ?_
        exact ja [0, 1] h
      refine AW.rp ?_
      exact ja [0, 1] h
    refine AW.tt h (fun hb21 h => ?_) fun hb21 h => ?_
    · refine AW.ro ?_
      refine bx h fun x22 h0 h1 h => ?_
      refine cm h (hself43 _ _) fun r24 hx25 h => ?_
      refine AW.ks [1, 7] [2, 3] ?_
      refine AW.one ?_
      refine AW.ro ?_
      refine AW.ks [0, 1] [2, 3, 35] ?_
      refine AW.tk h (fun hb26 h => ?_) fun hb26 h => ?_
      · refine AW.ro ?_
        refine AW.ret ?_
        have h := up h hJ2
        cases h; refine nz ?_; exact .aggL ⟨.same _, .nil, trivial⟩
      refine AW.kr [0, 1] [2, 3] ?_
      refine cm h r10_primed_ok fun r27 hx28 h => ?_
      refine AW.ret ?_
      have h := up h hJ2
      cases h; refine nz ?_; exact .same _
    refine AW.jn h (fun v29_0 => [(1, .ptr 0 6 0 0), (2, .ptr 1 2 0 0), (7, vI p0.op), (39, vB v29_0)]) (fun v29_0 => [vE p0.enc, some ⟨2, [[vB false, .d (.val (.slice none 0 0))]]⟩]) (fun oJ30 h => ?_) fun v29_0 h => ?_
    · refine AW.ro ?_
      refine AW.ks [0, 1] [1, 2, 7, 39] ?_
      refine AW.tt h (fun hb31 h => ?_) fun hb31 h => ?_
      · refine AW.sk ?_
        exact ja [0, 1] h
      refine AW.rp ?_
      exact ja [0, 1] h
    refine AW.tt h (fun hb32 h => ?_) fun hb32 h => ?_
    · refine AW.ro ?_
      refine bx h fun x33 h0 h1 h => ?_
      refine pm h (hself43 _ _) fun r35 hx36 h => ?_
      refine pm h r10_only_ok fun r37 hx38 h => ?_
      refine pm h r10_minus_ok fun r39 hx40 h => ?_
      refine AW.ret ?_
      have h := up h hJ2
      cases h; refine nz ?_; exact .same _
    refine AW.jn h (fun v41_0 => [(1, .ptr 0 6 0 0), (2, .ptr 1 2 0 0), (51, vB v41_0)]) (fun v41_0 => [vE p0.enc, some ⟨2, [[vB false, .d (.val (.slice none 0 0))]]⟩]) (fun oJ42 h => ?_) fun v41_0 h => ?_
    · refine AW.ro ?_
      refine AW.ks [0, 1] [1, 2, 7, 51] ?_
      refine AW.tt h (fun hb43 h => ?_) fun hb43 h => ?_
      · refine AW.sk ?_
        exact ja [0, 1] h
      refine AW.ro ?_
      refine AW.ks [0, 1] [1, 2, 7, 51] ?_
      refine AW.tt h (fun hb44 h => ?_) fun hb44 h => ?_
      · refine AW.sk ?_
        exact ja [0, 1] h
      refine AW.rp ?_
      exact ja [0, 1] h
    refine AW.tk h (fun hb45 h => ?_) fun hb45 h => ?_
    · refine AW.ro ?_
      refine bx h fun x46 h0 h1 h => ?_
      refine pm h (hself43 _ _) fun r48 hx49 h => ?_
      refine bx h fun x50 h0 h1 h => ?_
      refine pm h (hself43 _ _) fun r52 hx53 h => ?_
      refine pm h r10_must_ok fun r54 hx55 h => ?_
      refine pm h r10_minus_ok fun r56 hx57 h => ?_
      refine pm h r10_join_ok fun r58 hx59 h => ?_
      refine AW.ret ?_
      have h := up h hJ2
      cases h; refine nz ?_; exact .same _
    exact jo [0, 1] h
  refine AW.ro ?_
  refine AW.ks [0, 1, 2] [1, 2, 4] ?_
  refine AW.one ?_
  refine AW.ro ?_
  refine AW.ks [0, 1, 2] [1, 2, 4, 5] ?_
  refine AW.cutS [0, 1, 2] [] [] [(2, ⟨2, [[.d (.val (.bool false)), .d (slD strV [])]]⟩)] [(1, .ptr 0 6 0 0), (2, .ptr 1 2 0 0), (4, .ptr 2 2 0 0), (5, vI (0 : Int))] [vE p0.enc, some ⟨2, [[vB false, .d (.val (.slice none 0 0))]]⟩, some ⟨2, [[vB false, vL strV []]]⟩] (by simp only [go_sem, reduceEqDiff, reduceAdd, reduceSub, reduceMul, reduceLeDiff, reduceLT, Nat.reduceBEq, reduceIte, sealL_cons, sealL_nil]) (by simp only [go_sem, reduceEqDiff, reduceAdd, reduceSub, reduceMul, reduceLeDiff, reduceLT, Nat.reduceBEq, reduceIte, sealH_cons, sealH_nil]; exact ⟨⟨.same _, .nil, trivial⟩, trivial⟩) (by simp only [go_sem, reduceEqDiff, reduceAdd, reduceSub, reduceMul, reduceLeDiff, reduceLT, Nat.reduceBEq, reduceIte]) ?_
  refine AW.lm h (fun e65_0 => [(1, .ptr 0 6 0 0), (2, .ptr 1 2 0 0), (4, .ptr 2 2 0 0)]) (fun e65_0 => [vE p0.enc, some ⟨2, [[vB false, .d (.val (.slice none 0 0))]]⟩, vE e65_0.enc]) (fun (i64_0, i64_1) => [(1, .ptr 0 6 0 0), (2, .ptr 1 2 0 0), (4, .ptr 2 2 0 0), (5, vI i64_0)]) (fun (i64_0, i64_1) => [vE p0.enc, some ⟨2, [[vB false, .d (.val (.slice none 0 0))]]⟩, vE i64_1.enc]) [0, 1, 2] (fun oJ67 again ⟨i64_0, i64_1⟩ h => ?_) fun e65_0 h => ?_
  · try dsimp only at h
    refine AW.one ?_
    refine AW.ro ?_
    refine AW.ks [0, 1, 2] [1, 2, 4, 5, 76] ?_
    refine AW.tt h (fun hb68 h => ?_) fun hb68 h => ?_
    · refine AW.sk ?_
      refine AW.ks [0, 1, 2] [1, 2, 4, 5] ?_
      refine AW.one ?_
      refine AW.block ?_
      refine AW.rp ?_
      refine bx h fun x69 h0 h1 h => ?_
      refine pm h (hself43 _ _) fun r71 hx72 h => ?_
      refine pm h r10_join_ok fun r73 hx74 h => ?_
      refine AW.ks [0, 1, 2] [1, 2, 4, 5] ?_
      refine AW.rp ?_
      exact na [0, 1, 2] h
    refine AW.ex ?_
    exact ja [0, 1, 2] h
  refine AW.ks [0, 1, 2] [1, 2, 4] ?_
  refine AW.jn h (fun v75_0 => [(2, .ptr 0 2 0 0), (4, .ptr 1 2 0 0)]) (fun v75_0 => [some ⟨2, [[vB false, .d (.val (.slice none 0 0))]]⟩, vE v75_0.enc]) (fun oJ76 h => ?_) fun v75_0 h => ?_
  · refine AW.ro ?_
    refine AW.ks [0, 1, 2] [1, 2, 4, 89] ?_
    refine AW.tk h (fun hb77 h => ?_) fun hb77 h => ?_
    · refine AW.rp ?_
      refine pm h r10_only_ok fun r78 hx79 h => ?_
      refine pm h r10_join_ok fun r80 hx81 h => ?_
      exact ja [1, 2] h
    exact ja [1, 2] h
  refine AW.ro ?_
  refine AW.ret ?_
  cases h; refine nz ?_; exact .same _
def r10_free (K : Nat) (p0 : NodeA) : Option Api_NamesA := iter K (fun self q => r10_free_body K self q) p0
theorem key_r10_free {K : Nat} (k : Nat) : (∀ (q : NodeA) (r : Api_NamesA), iter k (fun self q => r10_free_body K self q) q = some r → Cn Tryz.prog 43 [aggV q.enc] (aggV r.enc)) := by
  induction k with
  | zero => exact fun q r h => by cases h
  | succ k ih => exact fun q r h => r10_free_step K _ ih q r h
theorem r10_free_ok {K : Nat} {p0 : NodeA} {r : Api_NamesA} (h : r10_free K p0 = some r) : Cn Tryz.prog 43 [aggV p0.enc] (aggV r.enc) := (key_r10_free K) p0 r h
/-! ### isochrone/isochroneref10.FreeOf -/
def r10_FreeOf (K : Nat) (p0 : NodeA) : Option Api_NamesA := (r10_free K p0).bind fun r1 => 
  some r1
set_option maxHeartbeats 4000000 in
theorem r10_FreeOf_ok {K : Nat} {p0 : NodeA} {r : Api_NamesA} (h : r10_FreeOf K p0 = some r) : Cn Tryz.prog 13 [aggV p0.enc] (aggV r.enc) := by
  refine Cn.oz Tryz.func13 Tryz.call13 Tryz.ntmps13 Tryz.results13 fun hfit => ?_
  unfold r10_FreeOf at h
  refine AW.kr [] [0] ?_
  refine AW.kr [0, 1] [1, 2] ?_
  refine cm h r10_free_ok fun r1 hx2 h => ?_
  refine AW.ret ?_
  cases h; refine nz ?_; exact .same _
/-! ### isochrone/isochroneref10.Same -/
def r10_Same (K : Nat) (p0 : Api_NamesA) (p1 : Api_NamesA) : Option Bool := ((
    ((
      if (!(p0.all == p1.all)) then
        some true
      else
        some ((p0.list.length : Int) != (p1.list.length : Int))) : Option Bool).bind (fun v3_0 => 
    if v3_0 then
      outM (
        some false)
    else
      some (.go ()))) : Option (Out Unit _)).bind (Out.fin fun _ => 
  ((iter (S := Int) (R := Out Unit _) K (fun again i7_0 => 
    if (decide (i7_0 < (p0.list.length : Int))) then
      (idx p0.list i7_0).bind fun x12 => 
      (idx p1.list i7_0).bind fun x14 => 
      if (!(x12.toList == x14.toList)) then
        outM (
          some false)
      else
        again (IntKind.wrap .i64 (i7_0 + (1 : Int)))
    else
      some (.go ())) (0 : Int)) : Option (Out Unit _)).bind (Out.fin fun _ => 
  some true))
set_option maxHeartbeats 4000000 in
theorem r10_Same_ok {K : Nat} {p0 : Api_NamesA} {p1 : Api_NamesA} {r : Bool} (h : r10_Same K p0 p1 = some r) : Cn Tryz.prog 12 [aggV p0.enc, aggV p1.enc] (.d (.val (.bool r))) := by
  refine Cn.oz Tryz.func12 Tryz.call12 Tryz.ntmps12 Tryz.results12 fun hfit => ?_
  unfold r10_Same at h
  refine AW.kr [] [0, 1] ?_
  refine AW.ks [0, 1] [2, 3] ?_
  refine AW.jo h (fun _ => [(2, .ptr 0 2 0 0), (3, .ptr 1 2 0 0)]) (fun _ => [vE p0.enc, vE p1.enc]) (fun oJ2 h hJ2 => ?_) fun ⟨⟩ h => ?_
  · refine AW.jn h (fun v3_0 => [(2, .ptr 0 2 0 0), (3, .ptr 1 2 0 0), (19, vB v3_0)]) (fun v3_0 => [vE p0.enc, vE p1.enc]) (fun oJ4 h => ?_) fun v3_0 h => ?_
    · refine AW.rp ?_
      refine sK h (fun hb5 h => ?_) fun hb5 h => ?_
      · exact ja [0, 1] h
      exact ja [0, 1] h
    refine AW.tk h (fun hb6 h => ?_) fun hb6 h => ?_
    · refine AW.ro ?_
      refine AW.ret ?_
      have h := up h hJ2
      cases h; refine nz ?_; exact .same _
    exact jo [0, 1] h
  refine AW.one ?_
  refine AW.ro ?_
  refine AW.ks [0, 1] [2, 3, 5] ?_
  refine AW.lp h (fun _ => []) (fun _ => []) (fun i7_0 => [(2, .ptr 0 2 0 0), (3, .ptr 1 2 0 0), (5, vI i7_0)]) (fun i7_0 => [vE p0.enc, vE p1.enc]) [0, 1] (fun oJ10 hJ10 again i7_0 h => ?_) fun ⟨⟩ h => ?_
  · refine AW.one ?_
    refine AW.ro ?_
    refine AW.ks [0, 1] [2, 3, 5, 24] ?_
    refine AW.tt h (fun hb11 h => ?_) fun hb11 h => ?_
    · refine AW.sk ?_
      refine AW.ks [0, 1] [2, 3, 5] ?_
      refine AW.one ?_
      refine AW.block ?_
      refine AW.ro ?_
      refine bx h fun x12 h0 h1 h => ?_
      refine bx h fun x14 h0 h1 h => ?_
      refine AW.ks [0, 1] [2, 3, 5, 37] ?_
      refine AW.tk h (fun hb16 h => ?_) fun hb16 h => ?_
      · refine AW.ro ?_
        refine AW.ret ?_
        have h := up h hJ10
        cases h; refine nz ?_; exact .same _
      refine AW.ks [0, 1] [2, 3, 5] ?_
      refine AW.rp ?_
      exact na [0, 1] h
    refine AW.ex ?_
    exact jo [] h
  refine AW.kr [] [] ?_
  refine AW.ret ?_
  cases h; refine nz ?_; exact .same _
/-! ### isochrone/isochroneref08.at -/
def r08_at (K : Nat) (p0 : NodeA) (p1 : List Int) : Option (NodeA × Bool) := ((iter (S := Int × NodeA) (R := Out NodeA _) K (fun again (i1_0, i1_1) => 
    if (decide (i1_0 < (p1.length : Int))) then
      ((
        ((
          ((
            (idx p1 i1_0).bind fun x12 => 
            if (decide (x12 < (0 : Int))) then
              some true
            else
              some (decide ((i1_1.kids.length : Int) ≤ x12))) : Option Bool).bind (fun v10_0 => 
          if v10_0 then
            outM (
              outM (
                outM (
                  some ((NodeA.mk (0 : Int) (⟨#[]⟩ : ByteArray) (RatA.mk false [] []) []), false))))
          else
            some (.go ()))) : Option (Out Unit _)).bind (Out.fin fun _ => 
        (idx p1 i1_0).bind fun x16 => 
        (idx i1_1.kids x16).bind fun x18 => 
        some (.go x18))) : Option (Out NodeA _)).bind (Out.fin fun v6_0 => 
      again (IntKind.wrap .i64 (i1_0 + (1 : Int)), v6_0))
    else
      some (.go i1_1)) ((0 : Int), p0)) : Option (Out NodeA _)).bind (Out.fin fun e2_0 => 
  some (e2_0, true))
set_option maxHeartbeats 4000000 in
theorem r08_at_ok {K : Nat} {p0 : NodeA} {p1 : List Int} {r : NodeA × Bool} (h : r08_at K p0 p1 = some r) : Cn Tryz.prog 76 [aggV p0.enc, .d (slD i64V p1)] (.tup [aggV r.1.enc, .d (.val (.bool r.2))]) := by
  refine Cn.oz Tryz.func76 Tryz.call76 Tryz.ntmps76 Tryz.results76 fun hfit => ?_
  unfold r08_at at h
  refine AW.kr [] [0, 1] ?_
  refine AW.ks [0, 1] [1, 2, 4] ?_
  refine AW.one ?_
  refine AW.ro ?_
  refine AW.ks [0, 1] [1, 2, 4, 6] ?_
  refine AW.lp h (fun e2_0 => [(2, .ptr 0 6 0 0), (4, .ptr 1 6 0 0)]) (fun e2_0 => [vE e2_0.enc, some ⟨6, [[vI (0 : Int), vS (⟨#[]⟩ : ByteArray), vB false, .d (.val (.slice none 0 0)), .d (.val (.slice none 0 0)), .d (.val (.slice none 0 0))]]⟩]) (fun (i1_0, i1_1) => [(1, vL i64V p1), (2, .ptr 0 6 0 0), (4, .ptr 1 6 0 0), (6, vI i1_0)]) (fun (i1_0, i1_1) => [vE i1_1.enc, some ⟨6, [[vI (0 : Int), vS (⟨#[]⟩ : ByteArray), vB false, .d (.val (.slice none 0 0)), .d (.val (.slice none 0 0)), .d (.val (.slice none 0 0))]]⟩]) [0, 1] (fun oJ4 hJ4 again ⟨i1_0, i1_1⟩ h => ?_) fun e2_0 h => ?_
  · try dsimp only at h
    refine AW.one ?_
    refine AW.ro ?_
    refine AW.ks [0, 1] [1, 2, 4, 6, 10] ?_
    refine AW.tt h (fun hb5 h => ?_) fun hb5 h => ?_
    · refine AW.sk ?_
      refine AW.ks [0, 1] [1, 2, 4, 6] ?_
      refine AW.jo h (fun v6_0 => [(1, vL i64V p1), (2, .ptr 0 6 0 0), (4, .ptr 1 6 0 0), (6, vI i1_0)]) (fun v6_0 => [vE v6_0.enc, some ⟨6, [[vI (0 : Int), vS (⟨#[]⟩ : ByteArray), vB false, .d (.val (.slice none 0 0)), .d (.val (.slice none 0 0)), .d (.val (.slice none 0 0))]]⟩]) (fun oJ7 h hJ7 => ?_) fun v6_0 h => ?_
      · refine AW.block ?_
        refine AW.jo h (fun _ => [(1, vL i64V p1), (2, .ptr 0 6 0 0), (4, .ptr 1 6 0 0), (6, vI i1_0)]) (fun _ => [vE i1_1.enc, some ⟨6, [[vI (0 : Int), vS (⟨#[]⟩ : ByteArray), vB false, .d (.val (.slice none 0 0)), .d (.val (.slice none 0 0)), .d (.val (.slice none 0 0))]]⟩]) (fun oJ9 h hJ9 => ?_) fun ⟨⟩ h => ?_
        · refine AW.jn h (fun v10_0 => [(1, vL i64V p1), (2, .ptr 0 6 0 0), (4, .ptr 1 6 0 0), (6, vI i1_0), (27, vB v10_0)]) (fun v10_0 => [vE i1_1.enc, some ⟨6, [[vI (0 : Int), vS (⟨#[]⟩ : ByteArray), vB false, .d (.val (.slice none 0 0)), .d (.val (.slice none 0 0)), .d (.val (.slice none 0 0))]]⟩]) (fun oJ11 h => ?_) fun v10_0 h => ?_
          · refine AW.rp ?_
            refine bx h fun x12 h0 h1 h => ?_
            refine sK h (fun hb14 h => ?_) fun hb14 h => ?_
            · exact ja [0, 1] h
            exact ja [0, 1] h
          refine AW.tk h (fun hb15 h => ?_) fun hb15 h => ?_
          · refine AW.ro ?_
            refine AW.ret ?_
            have h := up h hJ9
            have h := up h hJ7
            have h := up h hJ4
            cases h; refine nz ?_; exact .tupL ⟨.aggL ⟨.same _, .same _, .same _, .nil, .nil, .nil, trivial⟩, .same _, trivial⟩
          exact jo [0, 1] h
        refine AW.rp ?_
        refine bx h fun x16 h0 h1 h => ?_
        refine bx h fun x18 h0 h1 h => ?_
        exact jo [0, 1] h
      refine AW.rp ?_
      exact na [0, 1] h
    refine AW.ex ?_
    exact jo [0, 1] h
  refine AW.kr [0, 1] [2, 4] ?_
  refine AW.ret ?_
  cases h; refine nz ?_; exact .same _
/-! ### isochrone/isochroneref08.Levels -/
def r08_Levels_body (K : Nat) (self101 : NodeA → Option Int) (p0 : NodeA) : Option Int := ((iter (S := Int × Int) (R := Int) K (fun again (i1_0, i1_1) => 
    if (decide (i1_1 < (p0.kids.length : Int))) then
      (idx p0.kids i1_1).bind fun x6 => 
      (self101 (x6)).bind fun r8 => 
      again ((if r8 > i1_0 then r8 else i1_0), IntKind.wrap .i64 (i1_1 + (1 : Int)))
    else
      some i1_0) ((0 : Int), (0 : Int))) : Option Int).bind (fun e2_0 => 
  some (IntKind.wrap .i64 (e2_0 + (1 : Int))))
set_option maxHeartbeats 4000000 in
theorem r08_Levels_step (K : Nat) (self101 : NodeA → Option Int) (hself101 : ∀ (q : NodeA) (r : Int), self101 q = some r → Cn Tryz.prog 101 [aggV q.enc] (.d (.val (.int .i64 r)))) (p0 : NodeA) (r : Int) (h : r08_Levels_body K self101 p0 = some r) : Cn Tryz.prog 101 [aggV p0.enc] (.d (.val (.int .i64 r))) := by
  refine Cn.oz Tryz.func101 Tryz.call101 Tryz.ntmps101 Tryz.results101 fun hfit => ?_
  unfold r08_Levels_body at h
  refine AW.kr [] [0] ?_
  refine AW.kr [0] [1] ?_
  refine AW.ks [0] [1, 3] ?_
  refine AW.one ?_
  refine AW.ro ?_
  refine AW.ks [0] [1, 3, 4] ?_
  refine AW.lm h (fun e2_0 => [(3, vI e2_0)]) (fun e2_0 => []) (fun (i1_0, i1_1) => [(1, .ptr 0 6 0 0), (3, vI i1_0), (4, vI i1_1)]) (fun (i1_0, i1_1) => [vE p0.enc]) [0] (fun oJ4 again ⟨i1_0, i1_1⟩ h => ?_) fun e2_0 h => ?_
  · try dsimp only at h
    refine AW.one ?_
    refine AW.ro ?_
    refine AW.ks [0] [1, 3, 4, 9] ?_
    refine AW.tt h (fun hb5 h => ?_) fun hb5 h => ?_
    · refine AW.sk ?_
      refine AW.ks [0] [1, 3, 4] ?_
      refine AW.one ?_
      refine AW.block ?_
      refine AW.rp ?_
      refine bx h fun x6 h0 h1 h => ?_
      refine cm h (hself101 _ _) fun r8 hx9 h => ?_
      refine AW.ks [0] [1, 3, 4] ?_
      refine AW.rp ?_
      exact na [0] h
    refine AW.ex ?_
    exact ja [] h
  refine AW.kr [] [3] ?_
  refine AW.ret ?_
  cases h; refine nz ?_; exact .same _
def r08_Levels (K : Nat) (p0 : NodeA) : Option Int := iter K (fun self q => r08_Levels_body K self q) p0
theorem key_r08_Levels {K : Nat} (k : Nat) : (∀ (q : NodeA) (r : Int), iter k (fun self q => r08_Levels_body K self q) q = some r → Cn Tryz.prog 101 [aggV q.enc] (.d (.val (.int .i64 r)))) := by
  induction k with
  | zero => exact fun q r h => by cases h
  | succ k ih => exact fun q r h => r08_Levels_step K _ ih q r h
theorem r08_Levels_ok {K : Nat} {p0 : NodeA} {r : Int} (h : r08_Levels K p0 = some r) : Cn Tryz.prog 101 [aggV p0.enc] (.d (.val (.int .i64 r))) := (key_r08_Levels K) p0 r h
/-! ### isochrone/isochroneref08.Sort -/
def r08_Sort (K : Nat) (p0 : Int) : Option Int := ((
    if (decide ((1 : Int) ≤ p0)) then
      some (decide (p0 ≤ (13 : Int)))
    else
      some false) : Option Bool).bind (fun v1_0 => 
  if v1_0 then
    some (1 : Int)
  else
    ((
      if (decide ((20 : Int) ≤ p0)) then
        some (decide (p0 ≤ (39 : Int)))
      else
        some false) : Option Bool).bind (fun v5_0 => 
    if v5_0 then
      some (2 : Int)
    else
      ((
        if (p0 == (55 : Int)) then
          some true
        else
          some (p0 == (56 : Int))) : Option Bool).bind (fun v9_0 => 
      if v9_0 then
        some (4 : Int)
      else
        ((
          if (decide ((50 : Int) ≤ p0)) then
            some (decide (p0 ≤ (62 : Int)))
          else
            some false) : Option Bool).bind (fun v13_0 => 
        if v13_0 then
          some (3 : Int)
        else
          some (0 : Int)))))
set_option maxHeartbeats 4000000 in
theorem r08_Sort_ok {K : Nat} {p0 : Int} {r : Int} (h : r08_Sort K p0 = some r) : Cn Tryz.prog 18 [.d (.val (.int .i64 p0))] (.d (.val (.int .i64 r))) := by
  refine Cn.oz Tryz.func18 Tryz.call18 Tryz.ntmps18 Tryz.results18 fun hfit => ?_
  unfold r08_Sort at h
  refine AW.kr [] [0] ?_
  refine AW.ks [] [0] ?_
  refine AW.one ?_
  refine AW.block ?_
  refine AW.jn h (fun v1_0 => [(0, vI p0), (3, vB v1_0)]) (fun v1_0 => []) (fun oJ2 h => ?_) fun v1_0 h => ?_
  · refine AW.rp ?_
    refine sK h (fun hb3 h => ?_) fun hb3 h => ?_
    · exact ja [] h
    exact ja [] h
  refine AW.tt h (fun hb4 h => ?_) fun hb4 h => ?_
  · refine AW.ro ?_
    refine AW.ret ?_
    cases h; refine nz ?_; exact .same _
  refine AW.jn h (fun v5_0 => [(0, vI p0), (10, vB v5_0)]) (fun v5_0 => []) (fun oJ6 h => ?_) fun v5_0 h => ?_
  · refine AW.rp ?_
    refine sK h (fun hb7 h => ?_) fun hb7 h => ?_
    · exact ja [] h
    exact ja [] h
  refine AW.tt h (fun hb8 h => ?_) fun hb8 h => ?_
  · refine AW.ro ?_
    refine AW.ret ?_
    cases h; refine nz ?_; exact .same _
  refine AW.jn h (fun v9_0 => [(0, vI p0), (17, vB v9_0)]) (fun v9_0 => []) (fun oJ10 h => ?_) fun v9_0 h => ?_
  · refine AW.rp ?_
    refine sK h (fun hb11 h => ?_) fun hb11 h => ?_
    · exact ja [] h
    exact ja [] h
  refine AW.tt h (fun hb12 h => ?_) fun hb12 h => ?_
  · refine AW.ro ?_
    refine AW.ret ?_
    cases h; refine nz ?_; exact .same _
  refine AW.jn h (fun v13_0 => [(24, vB v13_0)]) (fun v13_0 => []) (fun oJ14 h => ?_) fun v13_0 h => ?_
  · refine AW.rp ?_
    refine sK h (fun hb15 h => ?_) fun hb15 h => ?_
    · exact ja [] h
    exact ja [] h
  refine AW.tk h (fun hb16 h => ?_) fun hb16 h => ?_
  · refine AW.ro ?_
    refine AW.ret ?_
    cases h; refine nz ?_; exact .same _
  refine AW.kr [] [] ?_
  refine AW.ret ?_
  cases h; refine nz ?_; exact .same _
/-! ### isochrone/isochroneref08.letter -/
def r08_letter (K : Nat) (p0 : Int) : Option Bool := if (decide ((97 : Int) ≤ p0)) then
    if (decide (p0 ≤ (122 : Int))) then
      some true
    else
      if (decide ((65 : Int) ≤ p0)) then
        some (decide (p0 ≤ (90 : Int)))
      else
        some false
  else
    if (decide ((65 : Int) ≤ p0)) then
      some (decide (p0 ≤ (90 : Int)))
    else
      some false
set_option maxHeartbeats 4000000 in
theorem r08_letter_ok {K : Nat} {p0 : Int} {r : Bool} (h : r08_letter K p0 = some r) : Cn Tryz.prog 77 [.d (.val (.int .u8 p0))] (.d (.val (.bool r))) := by
  refine Cn.oz Tryz.func77 Tryz.call77 Tryz.ntmps77 Tryz.results77 fun hfit => ?_
  unfold r08_letter at h
  refine AW.kr [] [0] ?_
  refine AW.kr [] [0] ?_
  refine sK h (fun hb1 h => ?_) fun hb1 h => ?_
  · refine sK h (fun hb2 h => ?_) fun hb2 h => ?_
    · refine AW.ret ?_
      cases h; refine nz ?_; exact .same _
    refine sK h (fun hb3 h => ?_) fun hb3 h => ?_
    · refine AW.ret ?_
      cases h; refine nz ?_; exact .same _
    refine AW.ret ?_
    cases h; refine nz ?_; exact .same _
  refine sK h (fun hb4 h => ?_) fun hb4 h => ?_
  · refine AW.ret ?_
    cases h; refine nz ?_; exact .same _
  refine AW.ret ?_
  cases h; refine nz ?_; exact .same _
/-! ### isochrone/isochroneref08.Name -/
def r08_Name (K : Nat) (p0 : ByteArray) : Option Bool := ((
    ((
      if ((p0.size : Int) == (0 : Int)) then
        some true
      else
        if (decide ((12 : Int) < (p0.size : Int))) then
          some true
        else
          if (p0.toList == (⟨#[116, 114, 117, 101]⟩ : ByteArray).toList) then
            some true
          else
            if (p0.toList == (⟨#[102, 97, 108, 115, 101]⟩ : ByteArray).toList) then
              some true
            else
              if (p0.toList == (⟨#[102, 111, 114, 97, 108, 108]⟩ : ByteArray).toList) then
                some true
              else
                some (p0.toList == (⟨#[101, 120, 105, 115, 116, 115]⟩ : ByteArray).toList)) : Option Bool).bind (fun v3_0 => 
    if v3_0 then
      outM (
        some false)
    else
      some (.go ()))) : Option (Out Unit _)).bind (Out.fin fun _ => 
  ((iter (S := Int) (R := Out Unit _) K (fun again i11_0 => 
    if (decide (i11_0 < (p0.size : Int))) then
      ((
        ((
          (strAt p0 i11_0).bind fun c20 => 
          (r08_letter K (c20.toNat : Int)).bind fun r22 => 
          if (!r22) then
            if (i11_0 == (0 : Int)) then
              some true
            else
              if (decide ((c20.toNat : Int) < (48 : Int))) then
                some true
              else
                some (decide ((57 : Int) < (c20.toNat : Int)))
          else
            some false) : Option Bool).bind (fun v18_0 => 
        if v18_0 then
          outM (
            outM (
              some false))
        else
          some (.go ()))) : Option (Out Unit _)).bind (Out.fin fun _ => 
      again (IntKind.wrap .i64 (i11_0 + (1 : Int))))
    else
      some (.go ())) (0 : Int)) : Option (Out Unit _)).bind (Out.fin fun _ => 
  some true))
set_option maxHeartbeats 4000000 in
theorem r08_Name_ok {K : Nat} {p0 : ByteArray} {r : Bool} (h : r08_Name K p0 = some r) : Cn Tryz.prog 36 [.d (.val (.string p0))] (.d (.val (.bool r))) := by
  refine Cn.oz Tryz.func36 Tryz.call36 Tryz.ntmps36 Tryz.results36 fun hfit => ?_
  unfold r08_Name at h
  refine AW.kr [] [0] ?_
  refine AW.ks [] [0] ?_
  refine AW.jo h (fun _ => [(0, vS p0)]) (fun _ => []) (fun oJ2 h hJ2 => ?_) fun ⟨⟩ h => ?_
  · refine AW.jn h (fun v3_0 => [(0, vS p0), (27, vB v3_0)]) (fun v3_0 => []) (fun oJ4 h => ?_) fun v3_0 h => ?_
    · refine AW.rp ?_
      refine sK h (fun hb5 h => ?_) fun hb5 h => ?_
      · exact ja [] h
      refine sK h (fun hb6 h => ?_) fun hb6 h => ?_
      · exact ja [] h
      refine sK h (fun hb7 h => ?_) fun hb7 h => ?_
      · exact ja [] h
      refine sK h (fun hb8 h => ?_) fun hb8 h => ?_
      · exact ja [] h
      refine sK h (fun hb9 h => ?_) fun hb9 h => ?_
      · exact ja [] h
      exact ja [] h
    refine AW.tk h (fun hb10 h => ?_) fun hb10 h => ?_
    · refine AW.ro ?_
      refine AW.ret ?_
      have h := up h hJ2
      cases h; refine nz ?_; exact .same _
    exact jo [] h
  refine AW.one ?_
  refine AW.ro ?_
  refine AW.ks [] [0, 3] ?_
  refine AW.lp h (fun _ => []) (fun _ => []) (fun i11_0 => [(0, vS p0), (3, vI i11_0)]) (fun i11_0 => []) [] (fun oJ14 hJ14 again i11_0 h => ?_) fun ⟨⟩ h => ?_
  · refine AW.one ?_
    refine AW.ro ?_
    refine AW.ks [] [0, 3, 31] ?_
    refine AW.tt h (fun hb15 h => ?_) fun hb15 h => ?_
    · refine AW.sk ?_
      refine AW.ks [] [0, 3] ?_
      refine AW.jo h (fun _ => [(0, vS p0), (3, vI i11_0)]) (fun _ => []) (fun oJ17 h hJ17 => ?_) fun ⟨⟩ h => ?_
      · refine AW.block ?_
        refine AW.jn h (fun v18_0 => [(0, vS p0), (3, vI i11_0), (54, vB v18_0)]) (fun v18_0 => []) (fun oJ19 h => ?_) fun v18_0 h => ?_
        · refine AW.rp ?_
          refine bb h fun c20 hx21 h => ?_
          refine cm h r08_letter_ok fun r22 hx23 h => ?_
          refine sK h (fun hb24 h => ?_) fun hb24 h => ?_
          · refine sK h (fun hb25 h => ?_) fun hb25 h => ?_
            · exact ja [] h
            refine sK h (fun hb26 h => ?_) fun hb26 h => ?_
            · exact ja [] h
            exact ja [] h
          exact ja [] h
        refine AW.tk h (fun hb27 h => ?_) fun hb27 h => ?_
        · refine AW.ro ?_
          refine AW.ret ?_
          have h := up h hJ17
          have h := up h hJ14
          cases h; refine nz ?_; exact .same _
        exact jo [] h
      refine AW.rp ?_
      exact na [] h
    refine AW.ex ?_
    exact jo [] h
  refine AW.kr [] [] ?_
  refine AW.ret ?_
  cases h; refine nz ?_; exact .same _
/-! ### isochrone/isochroneref08.Natural -/
def r08_Natural (K : Nat) (p0 : RatA) (p1 : Int) : Option Int := if ((p0.num.length : Int) == (0 : Int)) then
    some (0 : Int)
  else
    ((
      ((
        if (decide ((1 : Int) < (p0.num.length : Int))) then
          some true
        else
          (idx p0.num (0 : Int)).bind fun x7 => 
          some (decide (p1 < (IntKind.wrap .i64 x7)))) : Option Bool).bind (fun v4_0 => 
      if v4_0 then
        outM (
          some (-1 : Int))
      else
        some (.go ()))) : Option (Out Unit _)).bind (Out.fin fun _ => 
    (idx p0.num (0 : Int)).bind fun x10 => 
    some (IntKind.wrap .i64 x10))
set_option maxHeartbeats 4000000 in
theorem r08_Natural_ok {K : Nat} {p0 : RatA} {p1 : Int} {r : Int} (h : r08_Natural K p0 p1 = some r) : Cn Tryz.prog 118 [aggV p0.enc, .d (.val (.int .i64 p1))] (.d (.val (.int .i64 r))) := by
  have q0 := fun k z => cv_int (k' := k) (z := z) Tryz.underlying99 Tryz.underlying2
  have q1 := fun k z => cv_int (k' := k) (z := z) Tryz.underlying99 Tryz.underlying3
  refine Cn.oz Tryz.func118 Tryz.call118 Tryz.ntmps118 Tryz.results118 fun hfit => ?_
  unfold r08_Natural at h
  refine AW.kr [] [0, 1] ?_
  refine AW.ks [0] [1, 2] ?_
  refine AW.one ?_
  refine AW.ro ?_
  refine AW.ks [0] [1, 2, 8] ?_
  refine AW.tk h (fun hb1 h => ?_) fun hb1 h => ?_
  · refine AW.ro ?_
    refine AW.ret ?_
    cases h; refine nz ?_; exact .same _
  refine AW.ks [0] [1, 2] ?_
  refine AW.jo h (fun _ => [(2, .ptr 0 3 0 0)]) (fun _ => [vE p0.enc]) (fun oJ3 h hJ3 => ?_) fun ⟨⟩ h => ?_
  · refine AW.jn h (fun v4_0 => [(2, .ptr 0 3 0 0), (21, vB v4_0)]) (fun v4_0 => [vE p0.enc]) (fun oJ5 h => ?_) fun v4_0 h => ?_
    · refine AW.rp ?_
      refine sK h (fun hb6 h => ?_) fun hb6 h => ?_
      · exact ja [0] h
      refine bx h fun x7 h0 h1 h => ?_
      exact ja [0] h
    refine AW.tk h (fun hb9 h => ?_) fun hb9 h => ?_
    · refine AW.ro ?_
      refine AW.ret ?_
      have h := up h hJ3
      cases h; refine nz ?_; exact .same _
    exact jo [0] h
  refine AW.ro ?_
  refine bx h fun x10 h0 h1 h => ?_
  refine AW.ret ?_
  cases h; refine nz ?_; exact .same _
/-! ### isochrone/isochroneref08.differential -/
def r08_differential_body (K : Nat) (self119 : NodeA → Option Bool) (p0 : NodeA) : Option Bool := ((
    if (p0.op == (20 : Int)) then
      some true
    else
      if (p0.op == (21 : Int)) then
        some true
      else
        if (decide ((22 : Int) ≤ p0.op)) then
          if (decide (p0.op ≤ (27 : Int))) then
            some true
          else
            if (p0.op == (37 : Int)) then
              some true
            else
              some (p0.op == (38 : Int))
        else
          if (p0.op == (37 : Int)) then
            some true
          else
            some (p0.op == (38 : Int))) : Option Bool).bind (fun v1_0 => 
  if v1_0 then
    some true
  else
    ((
      if (p0.op == (29 : Int)) then
        some true
      else
        some (p0.op == (30 : Int))) : Option Bool).bind (fun v10_0 => 
    if v10_0 then
      ((iter (S := Int) (R := Out Unit _) K (fun again i14_0 => 
        if (decide (i14_0 < (p0.kids.length : Int))) then
          (idx p0.kids i14_0).bind fun x19 => 
          (self119 (x19)).bind fun r21 => 
          if (!r21) then
            outM (
              some false)
          else
            again (IntKind.wrap .i64 (i14_0 + (1 : Int)))
        else
          some (.go ())) (0 : Int)) : Option (Out Unit _)).bind (Out.fin fun _ => 
      some true)
    else
      some false))
set_option maxHeartbeats 4000000 in
theorem r08_differential_step (K : Nat) (self119 : NodeA → Option Bool) (hself119 : ∀ (q : NodeA) (r : Bool), self119 q = some r → Cn Tryz.prog 119 [aggV q.enc] (.d (.val (.bool r)))) (p0 : NodeA) (r : Bool) (h : r08_differential_body K self119 p0 = some r) : Cn Tryz.prog 119 [aggV p0.enc] (.d (.val (.bool r))) := by
  refine Cn.oz Tryz.func119 Tryz.call119 Tryz.ntmps119 Tryz.results119 fun hfit => ?_
  unfold r08_differential_body at h
  refine AW.kr [] [0] ?_
  refine AW.ks [0] [1] ?_
  refine AW.one ?_
  refine AW.block ?_
  refine AW.jn h (fun v1_0 => [(1, .ptr 0 6 0 0), (4, vB v1_0)]) (fun v1_0 => [vE p0.enc]) (fun oJ2 h => ?_) fun v1_0 h => ?_
  · refine AW.rp ?_
    refine sK h (fun hb3 h => ?_) fun hb3 h => ?_
    · exact ja [0] h
    refine sK h (fun hb4 h => ?_) fun hb4 h => ?_
    · exact ja [0] h
    refine sK h (fun hb5 h => ?_) fun hb5 h => ?_
    · refine sK h (fun hb6 h => ?_) fun hb6 h => ?_
      · exact ja [0] h
      refine sK h (fun hb7 h => ?_) fun hb7 h => ?_
      · exact ja [0] h
      exact ja [0] h
    refine sK h (fun hb8 h => ?_) fun hb8 h => ?_
    · exact ja [0] h
    exact ja [0] h
  refine AW.tt h (fun hb9 h => ?_) fun hb9 h => ?_
  · refine AW.ro ?_
    refine AW.ret ?_
    cases h; refine nz ?_; exact .same _
  refine AW.jn h (fun v10_0 => [(1, .ptr 0 6 0 0), (33, vB v10_0)]) (fun v10_0 => [vE p0.enc]) (fun oJ11 h => ?_) fun v10_0 h => ?_
  · refine AW.rp ?_
    refine sK h (fun hb12 h => ?_) fun hb12 h => ?_
    · exact ja [0] h
    exact ja [0] h
  refine AW.tk h (fun hb13 h => ?_) fun hb13 h => ?_
  · refine AW.one ?_
    refine AW.ro ?_
    refine AW.ks [0] [1, 3] ?_
    refine AW.lp h (fun _ => []) (fun _ => []) (fun i14_0 => [(1, .ptr 0 6 0 0), (3, vI i14_0)]) (fun i14_0 => [vE p0.enc]) [0] (fun oJ17 hJ17 again i14_0 h => ?_) fun ⟨⟩ h => ?_
    · refine AW.one ?_
      refine AW.ro ?_
      refine AW.ks [0] [1, 3, 46] ?_
      refine AW.tt h (fun hb18 h => ?_) fun hb18 h => ?_
      · refine AW.sk ?_
        refine AW.ks [0] [1, 3] ?_
        refine AW.one ?_
        refine AW.block ?_
        refine AW.ro ?_
        refine bx h fun x19 h0 h1 h => ?_
        refine cm h (hself119 _ _) fun r21 hx22 h => ?_
        refine AW.ks [0] [1, 3, 55] ?_
        refine AW.tk h (fun hb23 h => ?_) fun hb23 h => ?_
        · refine AW.ro ?_
          refine AW.ret ?_
          have h := up h hJ17
          cases h; refine nz ?_; exact .same _
        refine AW.ks [0] [1, 3] ?_
        refine AW.rp ?_
        exact na [0] h
      refine AW.ex ?_
      exact jo [] h
    refine AW.kr [] [] ?_
    refine AW.ret ?_
    cases h; refine nz ?_; exact .same _
  refine AW.kr [] [] ?_
  refine AW.ret ?_
  cases h; refine nz ?_; exact .same _
def r08_differential (K : Nat) (p0 : NodeA) : Option Bool := iter K (fun self q => r08_differential_body K self q) p0
theorem key_r08_differential {K : Nat} (k : Nat) : (∀ (q : NodeA) (r : Bool), iter k (fun self q => r08_differential_body K self q) q = some r → Cn Tryz.prog 119 [aggV q.enc] (.d (.val (.bool r)))) := by
  induction k with
  | zero => exact fun q r h => by cases h
  | succ k ih => exact fun q r h => r08_differential_step K _ ih q r h
theorem r08_differential_ok {K : Nat} {p0 : NodeA} {r : Bool} (h : r08_differential K p0 = some r) : Cn Tryz.prog 119 [aggV p0.enc] (.d (.val (.bool r))) := (key_r08_differential K) p0 r h
/-! ### isochrone/isochroneref08.kids -/
def r08_kids (K : Nat) (p0 : Int) : Option ByteArray := ((
    if (p0 == (4 : Int)) then
      some (p0 == (4 : Int))
    else
      if (p0 == (12 : Int)) then
        some (p0 == (12 : Int))
      else
        if (p0 == (50 : Int)) then
          some (p0 == (50 : Int))
        else
          if (p0 == (51 : Int)) then
            some (p0 == (51 : Int))
          else
            some (p0 == (55 : Int))) : Option Bool).bind (fun v1_0 => 
  if v1_0 then
    some (⟨#[49]⟩ : ByteArray)
  else
    ((
      if (p0 == (5 : Int)) then
        some (p0 == (5 : Int))
      else
        if (p0 == (6 : Int)) then
          some (p0 == (6 : Int))
        else
          if (p0 == (7 : Int)) then
            some (p0 == (7 : Int))
          else
            if (p0 == (8 : Int)) then
              some (p0 == (8 : Int))
            else
              if (p0 == (9 : Int)) then
                some (p0 == (9 : Int))
              else
                if (p0 == (22 : Int)) then
                  some (p0 == (22 : Int))
                else
                  if (p0 == (23 : Int)) then
                    some (p0 == (23 : Int))
                  else
                    if (p0 == (24 : Int)) then
                      some (p0 == (24 : Int))
                    else
                      if (p0 == (25 : Int)) then
                        some (p0 == (25 : Int))
                      else
                        if (p0 == (26 : Int)) then
                          some (p0 == (26 : Int))
                        else
                          some (p0 == (27 : Int))) : Option Bool).bind (fun v8_0 => 
    if v8_0 then
      some (⟨#[49, 49]⟩ : ByteArray)
    else
      ((
        if (p0 == (28 : Int)) then
          some (p0 == (28 : Int))
        else
          if (p0 == (33 : Int)) then
            some (p0 == (33 : Int))
          else
            if (p0 == (34 : Int)) then
              some (p0 == (34 : Int))
            else
              if (p0 == (39 : Int)) then
                some (p0 == (39 : Int))
              else
                some (p0 == (53 : Int))) : Option Bool).bind (fun v21_0 => 
      if v21_0 then
        some (⟨#[50]⟩ : ByteArray)
      else
        ((
          if (p0 == (29 : Int)) then
            some (p0 == (29 : Int))
          else
            if (p0 == (30 : Int)) then
              some (p0 == (30 : Int))
            else
              if (p0 == (31 : Int)) then
                some (p0 == (31 : Int))
              else
                some (p0 == (32 : Int))) : Option Bool).bind (fun v28_0 => 
        if v28_0 then
          some (⟨#[50, 50]⟩ : ByteArray)
        else
          ((
            if (p0 == (35 : Int)) then
              some (p0 == (35 : Int))
            else
              some (p0 == (36 : Int))) : Option Bool).bind (fun v34_0 => 
          if v34_0 then
            some (⟨#[51, 50]⟩ : ByteArray)
          else
            ((
              if (p0 == (57 : Int)) then
                some (p0 == (57 : Int))
              else
                some (p0 == (58 : Int))) : Option Bool).bind (fun v38_0 => 
            if v38_0 then
              some (⟨#[51, 51]⟩ : ByteArray)
            else
              ((
                if (p0 == (59 : Int)) then
                  some (p0 == (59 : Int))
                else
                  some (p0 == (60 : Int))) : Option Bool).bind (fun v42_0 => 
              if v42_0 then
                some (⟨#[51]⟩ : ByteArray)
              else
                some (⟨#[]⟩ : ByteArray))))))))
set_option maxHeartbeats 4000000 in
theorem r08_kids_ok {K : Nat} {p0 : Int} {r : ByteArray} (h : r08_kids K p0 = some r) : Cn Tryz.prog 117 [.d (.val (.int .i64 p0))] (.d (.val (.string r))) := by
  refine Cn.oz Tryz.func117 Tryz.call117 Tryz.ntmps117 Tryz.results117 fun hfit => ?_
  unfold r08_kids at h
  refine AW.kr [] [0] ?_
  refine AW.ks [] [0] ?_
  refine AW.one ?_
  refine AW.ro ?_
  refine AW.ks [] [3] ?_
  refine AW.block ?_
  refine AW.jn h (fun v1_0 => [(3, vI p0), (4, vB v1_0)]) (fun v1_0 => []) (fun oJ2 h => ?_) fun v1_0 h => ?_
  · refine AW.ro ?_
    refine AW.ks [] [3, 4] ?_
    refine AW.tt h (fun hb3 h => ?_) fun hb3 h => ?_
    · refine AW.sk ?_
      exact ja [] h
    refine AW.ro ?_
    refine AW.ks [] [3, 4] ?_
    refine AW.tt h (fun hb4 h => ?_) fun hb4 h => ?_
    · refine AW.sk ?_
      exact ja [] h
    refine AW.ro ?_
    refine AW.ks [] [3, 4] ?_
    refine AW.tt h (fun hb5 h => ?_) fun hb5 h => ?_
    · refine AW.sk ?_
      exact ja [] h
    refine AW.ro ?_
    refine AW.ks [] [3, 4] ?_
    refine AW.tt h (fun hb6 h => ?_) fun hb6 h => ?_
    · refine AW.sk ?_
      exact ja [] h
    refine AW.rp ?_
    exact ja [] h
  refine AW.tt h (fun hb7 h => ?_) fun hb7 h => ?_
  · refine AW.ro ?_
    refine AW.ret ?_
    cases h; refine nz ?_; exact .same _
  refine AW.jn h (fun v8_0 => [(3, vI p0), (10, vB v8_0)]) (fun v8_0 => []) (fun oJ9 h => ?_) fun v8_0 h => ?_
  · refine AW.ro ?_
    refine AW.ks [] [3, 10] ?_
    refine AW.tt h (fun hb10 h => ?_) fun hb10 h => ?_
    · refine AW.sk ?_
      exact ja [] h
    refine AW.ro ?_
    refine AW.ks [] [3, 10] ?_
    refine AW.tt h (fun hb11 h => ?_) fun hb11 h => ?_
    · refine AW.sk ?_
      exact ja [] h
    refine AW.ro ?_
    refine AW.ks [] [3, 10] ?_
    refine AW.tt h (fun hb12 h => ?_) fun hb12 h => ?_
    · refine AW.sk ?_
      exact ja [] h
    refine AW.ro ?_
    refine AW.ks [] [3, 10] ?_
    refine AW.tt h (fun hb13 h => ?_) fun hb13 h => ?_
    · refine AW.sk ?_
      exact ja [] h
    refine AW.ro ?_
    refine AW.ks [] [3, 10] ?_
    refine AW.tt h (fun hb14 h => ?_) fun hb14 h => ?_
    · refine AW.sk ?_
      exact ja [] h
    refine AW.ro ?_
    refine AW.ks [] [3, 10] ?_
    refine AW.tt h (fun hb15 h => ?_) fun hb15 h => ?_
    · refine AW.sk ?_
      exact ja [] h
    refine AW.ro ?_
    refine AW.ks [] [3, 10] ?_
    refine AW.tt h (fun hb16 h => ?_) fun hb16 h => ?_
    · refine AW.sk ?_
      exact ja [] h
    refine AW.ro ?_
    refine AW.ks [] [3, 10] ?_
    refine AW.tt h (fun hb17 h => ?_) fun hb17 h => ?_
    · refine AW.sk ?_
      exact ja [] h
    refine AW.ro ?_
    refine AW.ks [] [3, 10] ?_
    refine AW.tt h (fun hb18 h => ?_) fun hb18 h => ?_
    · refine AW.sk ?_
      exact ja [] h
    refine AW.ro ?_
    refine AW.ks [] [3, 10] ?_
    refine AW.tt h (fun hb19 h => ?_) fun hb19 h => ?_
    · refine AW.sk ?_
      exact ja [] h
    refine AW.rp ?_
    exact ja [] h
  refine AW.tt h (fun hb20 h => ?_) fun hb20 h => ?_
  · refine AW.ro ?_
    refine AW.ret ?_
    cases h; refine nz ?_; exact .same _
  refine AW.jn h (fun v21_0 => [(3, vI p0), (22, vB v21_0)]) (fun v21_0 => []) (fun oJ22 h => ?_) fun v21_0 h => ?_
  · refine AW.ro ?_
    refine AW.ks [] [3, 22] ?_
    refine AW.tt h (fun hb23 h => ?_) fun hb23 h => ?_
    · refine AW.sk ?_
      exact ja [] h
    refine AW.ro ?_
    refine AW.ks [] [3, 22] ?_
    refine AW.tt h (fun hb24 h => ?_) fun hb24 h => ?_
    · refine AW.sk ?_
      exact ja [] h
    refine AW.ro ?_
    refine AW.ks [] [3, 22] ?_
    refine AW.tt h (fun hb25 h => ?_) fun hb25 h => ?_
    · refine AW.sk ?_
      exact ja [] h
    refine AW.ro ?_
    refine AW.ks [] [3, 22] ?_
    refine AW.tt h (fun hb26 h => ?_) fun hb26 h => ?_
    · refine AW.sk ?_
      exact ja [] h
    refine AW.rp ?_
    exact ja [] h
  refine AW.tt h (fun hb27 h => ?_) fun hb27 h => ?_
  · refine AW.ro ?_
    refine AW.ret ?_
    cases h; refine nz ?_; exact .same _
  refine AW.jn h (fun v28_0 => [(3, vI p0), (28, vB v28_0)]) (fun v28_0 => []) (fun oJ29 h => ?_) fun v28_0 h => ?_
  · refine AW.ro ?_
    refine AW.ks [] [3, 28] ?_
    refine AW.tt h (fun hb30 h => ?_) fun hb30 h => ?_
    · refine AW.sk ?_
      exact ja [] h
    refine AW.ro ?_
    refine AW.ks [] [3, 28] ?_
    refine AW.tt h (fun hb31 h => ?_) fun hb31 h => ?_
    · refine AW.sk ?_
      exact ja [] h
    refine AW.ro ?_
    refine AW.ks [] [3, 28] ?_
    refine AW.tt h (fun hb32 h => ?_) fun hb32 h => ?_
    · refine AW.sk ?_
      exact ja [] h
    refine AW.rp ?_
    exact ja [] h
  refine AW.tt h (fun hb33 h => ?_) fun hb33 h => ?_
  · refine AW.ro ?_
    refine AW.ret ?_
    cases h; refine nz ?_; exact .same _
  refine AW.jn h (fun v34_0 => [(3, vI p0), (33, vB v34_0)]) (fun v34_0 => []) (fun oJ35 h => ?_) fun v34_0 h => ?_
  · refine AW.ro ?_
    refine AW.ks [] [3, 33] ?_
    refine AW.tt h (fun hb36 h => ?_) fun hb36 h => ?_
    · refine AW.sk ?_
      exact ja [] h
    refine AW.rp ?_
    exact ja [] h
  refine AW.tt h (fun hb37 h => ?_) fun hb37 h => ?_
  · refine AW.ro ?_
    refine AW.ret ?_
    cases h; refine nz ?_; exact .same _
  refine AW.jn h (fun v38_0 => [(3, vI p0), (36, vB v38_0)]) (fun v38_0 => []) (fun oJ39 h => ?_) fun v38_0 h => ?_
  · refine AW.ro ?_
    refine AW.ks [] [3, 36] ?_
    refine AW.tt h (fun hb40 h => ?_) fun hb40 h => ?_
    · refine AW.sk ?_
      exact ja [] h
    refine AW.rp ?_
    exact ja [] h
  refine AW.tt h (fun hb41 h => ?_) fun hb41 h => ?_
  · refine AW.ro ?_
    refine AW.ret ?_
    cases h; refine nz ?_; exact .same _
  refine AW.jn h (fun v42_0 => [(39, vB v42_0)]) (fun v42_0 => []) (fun oJ43 h => ?_) fun v42_0 h => ?_
  · refine AW.ro ?_
    refine AW.ks [] [3, 39] ?_
    refine AW.tt h (fun hb44 h => ?_) fun hb44 h => ?_
    · refine AW.sk ?_
      exact ja [] h
    refine AW.rp ?_
    exact ja [] h
  refine AW.tk h (fun hb45 h => ?_) fun hb45 h => ?_
  · refine AW.ro ?_
    refine AW.ret ?_
    cases h; refine nz ?_; exact .same _
  refine AW.kr [] [] ?_
  refine AW.ret ?_
  cases h; refine nz ?_; exact .same _
/-! ### isochrone/isochroneref08.named -/
def r08_named (K : Nat) (p0 : Int) : Option Bool := ((
    if (p0 == (2 : Int)) then
      some (p0 == (2 : Int))
    else
      if (p0 == (3 : Int)) then
        some (p0 == (3 : Int))
      else
        if (p0 == (10 : Int)) then
          some (p0 == (10 : Int))
        else
          if (p0 == (11 : Int)) then
            some (p0 == (11 : Int))
          else
            if (p0 == (33 : Int)) then
              some (p0 == (33 : Int))
            else
              if (p0 == (34 : Int)) then
                some (p0 == (34 : Int))
              else
                if (p0 == (37 : Int)) then
                  some (p0 == (37 : Int))
                else
                  if (p0 == (38 : Int)) then
                    some (p0 == (38 : Int))
                  else
                    if (p0 == (50 : Int)) then
                      some (p0 == (50 : Int))
                    else
                      if (p0 == (51 : Int)) then
                        some (p0 == (51 : Int))
                      else
                        if (p0 == (52 : Int)) then
                          some (p0 == (52 : Int))
                        else
                          if (p0 == (55 : Int)) then
                            some (p0 == (55 : Int))
                          else
                            if (p0 == (56 : Int)) then
                              some (p0 == (56 : Int))
                            else
                              if (p0 == (61 : Int)) then
                                some (p0 == (61 : Int))
                              else
                                some (p0 == (62 : Int))) : Option Bool).bind (fun v1_0 => 
  if v1_0 then
    some true
  else
    some false)
set_option maxHeartbeats 4000000 in
theorem r08_named_ok {K : Nat} {p0 : Int} {r : Bool} (h : r08_named K p0 = some r) : Cn Tryz.prog 114 [.d (.val (.int .i64 p0))] (.d (.val (.bool r))) := by
  refine Cn.oz Tryz.func114 Tryz.call114 Tryz.ntmps114 Tryz.results114 fun hfit => ?_
  unfold r08_named at h
  refine AW.kr [] [0] ?_
  refine AW.ks [] [0] ?_
  refine AW.one ?_
  refine AW.ro ?_
  refine AW.ks [] [3] ?_
  refine AW.block ?_
  refine AW.jn h (fun v1_0 => [(4, vB v1_0)]) (fun v1_0 => []) (fun oJ2 h => ?_) fun v1_0 h => ?_
  · refine AW.ro ?_
    refine AW.ks [] [3, 4] ?_
    refine AW.tt h (fun hb3 h => ?_) fun hb3 h => ?_
    · refine AW.sk ?_
      exact ja [] h
    refine AW.ro ?_
    refine AW.ks [] [3, 4] ?_
    refine AW.tt h (fun hb4 h => ?_) fun hb4 h => ?_
    · refine AW.sk ?_
      exact ja [] h
    refine AW.ro ?_
    refine AW.ks [] [3, 4] ?_
    refine AW.tt h (fun hb5 h => ?_) fun hb5 h => ?_
    · refine AW.sk ?_
      exact ja [] h
    refine AW.ro ?_
    refine AW.ks [] [3, 4] ?_
    refine AW.tt h (fun hb6 h => ?_) fun hb6 h => ?_
    · refine AW.sk ?_
      exact ja [] h
    refine AW.ro ?_
    refine AW.ks [] [3, 4] ?_
    refine AW.tt h (fun hb7 h => ?_) fun hb7 h => ?_
    · refine AW.sk ?_
      exact ja [] h
    refine AW.ro ?_
    refine AW.ks [] [3, 4] ?_
    refine AW.tt h (fun hb8 h => ?_) fun hb8 h => ?_
    · refine AW.sk ?_
      exact ja [] h
    refine AW.ro ?_
    refine AW.ks [] [3, 4] ?_
    refine AW.tt h (fun hb9 h => ?_) fun hb9 h => ?_
    · refine AW.sk ?_
      exact ja [] h
    refine AW.ro ?_
    refine AW.ks [] [3, 4] ?_
    refine AW.tt h (fun hb10 h => ?_) fun hb10 h => ?_
    · refine AW.sk ?_
      exact ja [] h
    refine AW.ro ?_
    refine AW.ks [] [3, 4] ?_
    refine AW.tt h (fun hb11 h => ?_) fun hb11 h => ?_
    · refine AW.sk ?_
      exact ja [] h
    refine AW.ro ?_
    refine AW.ks [] [3, 4] ?_
    refine AW.tt h (fun hb12 h => ?_) fun hb12 h => ?_
    · refine AW.sk ?_
      exact ja [] h
    refine AW.ro ?_
    refine AW.ks [] [3, 4] ?_
    refine AW.tt h (fun hb13 h => ?_) fun hb13 h => ?_
    · refine AW.sk ?_
      exact ja [] h
    refine AW.ro ?_
    refine AW.ks [] [3, 4] ?_
    refine AW.tt h (fun hb14 h => ?_) fun hb14 h => ?_
    · refine AW.sk ?_
      exact ja [] h
    refine AW.ro ?_
    refine AW.ks [] [3, 4] ?_
    refine AW.tt h (fun hb15 h => ?_) fun hb15 h => ?_
    · refine AW.sk ?_
      exact ja [] h
    refine AW.ro ?_
    refine AW.ks [] [3, 4] ?_
    refine AW.tt h (fun hb16 h => ?_) fun hb16 h => ?_
    · refine AW.sk ?_
      exact ja [] h
    refine AW.rp ?_
    exact ja [] h
  refine AW.tk h (fun hb17 h => ?_) fun hb17 h => ?_
  · refine AW.ro ?_
    refine AW.ret ?_
    cases h; refine nz ?_; exact .same _
  refine AW.kr [] [] ?_
  refine AW.ret ?_
  cases h; refine nz ?_; exact .same _
/-! ### isochrone/isochroneref08.natural -/
def r08_natural (K : Nat) (p0 : RatA) : Option Bool := ((
    ((
      if p0.neg then
        some true
      else
        if ((p0.den.length : Int) != (1 : Int)) then
          some true
        else
          (idx p0.den (0 : Int)).bind fun x7 => 
          if (x7 != (1 : Int)) then
            some true
          else
            some (decide ((20 : Int) < (p0.num.length : Int)))) : Option Bool).bind (fun v3_0 => 
    if v3_0 then
      outM (
        some false)
    else
      some (.go ()))) : Option (Out Unit _)).bind (Out.fin fun _ => 
  if ((p0.num.length : Int) == (0 : Int)) then
    some true
  else
    (idx p0.num (IntKind.wrap .i64 ((p0.num.length : Int) - (1 : Int)))).bind fun x12 => 
    some (x12 != (0 : Int)))
set_option maxHeartbeats 4000000 in
theorem r08_natural_ok {K : Nat} {p0 : RatA} {r : Bool} (h : r08_natural K p0 = some r) : Cn Tryz.prog 115 [aggV p0.enc] (.d (.val (.bool r))) := by
  refine Cn.oz Tryz.func115 Tryz.call115 Tryz.ntmps115 Tryz.results115 fun hfit => ?_
  unfold r08_natural at h
  refine AW.kr [] [0] ?_
  refine AW.ks [0] [1] ?_
  refine AW.jo h (fun _ => [(1, .ptr 0 3 0 0)]) (fun _ => [vE p0.enc]) (fun oJ2 h hJ2 => ?_) fun ⟨⟩ h => ?_
  · refine AW.jn h (fun v3_0 => [(1, .ptr 0 3 0 0), (23, vB v3_0)]) (fun v3_0 => [vE p0.enc]) (fun oJ4 h => ?_) fun v3_0 h => ?_
    · refine AW.rp ?_
      refine sK h (fun hb5 h => ?_) fun hb5 h => ?_
      · exact ja [0] h
      refine sK h (fun hb6 h => ?_) fun hb6 h => ?_
      · exact ja [0] h
      refine bx h fun x7 h0 h1 h => ?_
      refine sK h (fun hb9 h => ?_) fun hb9 h => ?_
      · exact ja [0] h
      exact ja [0] h
    refine AW.tk h (fun hb10 h => ?_) fun hb10 h => ?_
    · refine AW.ro ?_
      refine AW.ret ?_
      have h := up h hJ2
      cases h; refine nz ?_; exact .same _
    exact jo [0] h
  refine AW.ro ?_
  refine sK h (fun hb11 h => ?_) fun hb11 h => ?_
  · refine AW.ret ?_
    cases h; refine nz ?_; exact .same _
  refine bx h fun x12 h0 h1 h => ?_
  refine AW.ret ?_
  cases h; refine nz ?_; exact .same _
/-! ### isochrone/isochroneref08.primed -/
def r08_primed_body (K : Nat) (self130 : NodeA → Option Bool) (p0 : NodeA) : Option Bool := ((
    ((
      if (p0.op == (3 : Int)) then
        some true
      else
        if (p0.op == (12 : Int)) then
          some true
        else
          some (p0.op == (39 : Int))) : Option Bool).bind (fun v3_0 => 
    if v3_0 then
      outM (
        some true)
    else
      some (.go ()))) : Option (Out Unit _)).bind (Out.fin fun _ => 
  ((iter (S := Int) (R := Out Unit _) K (fun again i8_0 => 
    if (decide (i8_0 < (p0.kids.length : Int))) then
      (idx p0.kids i8_0).bind fun x13 => 
      (self130 (x13)).bind fun r15 => 
      if r15 then
        outM (
          some true)
      else
        again (IntKind.wrap .i64 (i8_0 + (1 : Int)))
    else
      some (.go ())) (0 : Int)) : Option (Out Unit _)).bind (Out.fin fun _ => 
  some false))
set_option maxHeartbeats 4000000 in
theorem r08_primed_step (K : Nat) (self130 : NodeA → Option Bool) (hself130 : ∀ (q : NodeA) (r : Bool), self130 q = some r → Cn Tryz.prog 130 [aggV q.enc] (.d (.val (.bool r)))) (p0 : NodeA) (r : Bool) (h : r08_primed_body K self130 p0 = some r) : Cn Tryz.prog 130 [aggV p0.enc] (.d (.val (.bool r))) := by
  refine Cn.oz Tryz.func130 Tryz.call130 Tryz.ntmps130 Tryz.results130 fun hfit => ?_
  unfold r08_primed_body at h
  refine AW.kr [] [0] ?_
  refine AW.ks [0] [1] ?_
  refine AW.jo h (fun _ => [(1, .ptr 0 6 0 0)]) (fun _ => [vE p0.enc]) (fun oJ2 h hJ2 => ?_) fun ⟨⟩ h => ?_
  · refine AW.jn h (fun v3_0 => [(1, .ptr 0 6 0 0), (16, vB v3_0)]) (fun v3_0 => [vE p0.enc]) (fun oJ4 h => ?_) fun v3_0 h => ?_
    · refine AW.rp ?_
      refine sK h (fun hb5 h => ?_) fun hb5 h => ?_
      · exact ja [0] h
      refine sK h (fun hb6 h => ?_) fun hb6 h => ?_
      · exact ja [0] h
      exact ja [0] h
    refine AW.tk h (fun hb7 h => ?_) fun hb7 h => ?_
    · refine AW.ro ?_
      refine AW.ret ?_
      have h := up h hJ2
      cases h; refine nz ?_; exact .same _
    exact jo [0] h
  refine AW.one ?_
  refine AW.ro ?_
  refine AW.ks [0] [1, 3] ?_
  refine AW.lp h (fun _ => []) (fun _ => []) (fun i8_0 => [(1, .ptr 0 6 0 0), (3, vI i8_0)]) (fun i8_0 => [vE p0.enc]) [0] (fun oJ11 hJ11 again i8_0 h => ?_) fun ⟨⟩ h => ?_
  · refine AW.one ?_
    refine AW.ro ?_
    refine AW.ks [0] [1, 3, 21] ?_
    refine AW.tt h (fun hb12 h => ?_) fun hb12 h => ?_
    · refine AW.sk ?_
      refine AW.ks [0] [1, 3] ?_
      refine AW.one ?_
      refine AW.block ?_
      refine AW.ro ?_
      refine bx h fun x13 h0 h1 h => ?_
      refine cm h (hself130 _ _) fun r15 hx16 h => ?_
      refine AW.ks [0] [1, 3, 29] ?_
      refine AW.tk h (fun hb17 h => ?_) fun hb17 h => ?_
      · refine AW.ro ?_
        refine AW.ret ?_
        have h := up h hJ11
        cases h; refine nz ?_; exact .same _
      refine AW.ks [0] [1, 3] ?_
      refine AW.rp ?_
      exact na [0] h
    refine AW.ex ?_
    exact jo [] h
  refine AW.kr [] [] ?_
  refine AW.ret ?_
  cases h; refine nz ?_; exact .same _
def r08_primed (K : Nat) (p0 : NodeA) : Option Bool := iter K (fun self q => r08_primed_body K self q) p0
theorem key_r08_primed {K : Nat} (k : Nat) : (∀ (q : NodeA) (r : Bool), iter k (fun self q => r08_primed_body K self q) q = some r → Cn Tryz.prog 130 [aggV q.enc] (.d (.val (.bool r)))) := by
  induction k with
  | zero => exact fun q r h => by cases h
  | succ k ih => exact fun q r h => r08_primed_step K _ ih q r h
theorem r08_primed_ok {K : Nat} {p0 : NodeA} {r : Bool} (h : r08_primed K p0 = some r) : Cn Tryz.prog 130 [aggV p0.enc] (.d (.val (.bool r))) := (key_r08_primed K) p0 r h
/-! ### isochrone/isochroneref08.well -/
def r08_well_body (K : Nat) (self102 : (NodeA × Int × Bool × Bool) → Option Bool) (self116 : (NodeA × Bool × Bool) → Option Bool) (p0 : NodeA) (p1 : Int) (p2 : Bool) (p3 : Bool) : Option Bool := ((
    ((
      (r08_Sort K p0.op).bind fun r5 => 
      if (r5 != p1) then
        some true
      else
        (r08_named K p0.op).bind fun r8 => 
        (r08_Name K p0.name).bind fun r10 => 
        if (!(r8 == r10)) then
          some true
        else
          (r08_named K p0.op).bind fun r13 => 
          if (!r13) then
            some (!(p0.name.toList == (⟨#[]⟩ : ByteArray).toList))
          else
            some false) : Option Bool).bind (fun v3_0 => 
    if v3_0 then
      outM (
        some false)
    else
      some (.go ()))) : Option (Out Unit _)).bind (Out.fin fun _ => 
  ((
    if (p0.op == (1 : Int)) then
      (r08_natural K p0.num).bind fun r20 => 
      if (!r20) then
        outM (
          some false)
      else
        some (.go ())
    else
      ((
        if p0.num.neg then
          some true
        else
          if (decide ((0 : Int) < (p0.num.num.length : Int))) then
            some true
          else
            some (decide ((0 : Int) < (p0.num.den.length : Int)))) : Option Bool).bind (fun v23_0 => 
      if v23_0 then
        outM (
          some false)
      else
        some (.go ()))) : Option (Out Unit _)).bind (Out.fin fun _ => 
  ((
    ((
      if p2 then
        if (p0.op == (12 : Int)) then
          some true
        else
          some (p0.op == (3 : Int))
      else
        if p3 then
          some (p0.op == (3 : Int))
        else
          some false) : Option Bool).bind (fun v30_0 => 
    if v30_0 then
      outM (
        some false)
    else
      some (.go ()))) : Option (Out Unit _)).bind (Out.fin fun _ => 
  if (p0.op == (54 : Int)) then
    (self116 (p0, p2, p3)).bind fun r37 => 
    some r37
  else
    (r08_kids K p0.op).bind fun r39 => 
    ((
      ((
        if (p0.op == (10 : Int)) then
          some true
        else
          some (p0.op == (37 : Int))) : Option Bool).bind (fun v43_0 => 
      if v43_0 then
        if ((p0.kids.length : Int) == (1 : Int)) then
          some (⟨#[49]⟩ : ByteArray)
        else
          some r39
      else
        some r39)) : Option ByteArray).bind (fun v41_0 => 
    if ((v41_0.size : Int) != (p0.kids.length : Int)) then
      some false
    else
      ((iter (S := Int) (R := Out Unit _) K (fun again i49_0 => 
        if (decide (i49_0 < (v41_0.size : Int))) then
          ((
            ((
              (idx p0.kids i49_0).bind fun x58 => 
              (strAt v41_0 i49_0).bind fun c60 => 
              if p2 then
                if p3 then
                  (self102 (x58, IntKind.wrap .i64 (IntKind.wrap .u8 ((c60.toNat : Int) - (48 : Int))), true, true)).bind fun r64 => 
                  some (!r64)
                else
                  (self102 (x58, IntKind.wrap .i64 (IntKind.wrap .u8 ((c60.toNat : Int) - (48 : Int))), true, (p0.op == (39 : Int)))).bind fun r66 => 
                  some (!r66)
              else
                if p3 then
                  (self102 (x58, IntKind.wrap .i64 (IntKind.wrap .u8 ((c60.toNat : Int) - (48 : Int))), (p0.op == (12 : Int)), true)).bind fun r69 => 
                  some (!r69)
                else
                  (self102 (x58, IntKind.wrap .i64 (IntKind.wrap .u8 ((c60.toNat : Int) - (48 : Int))), (p0.op == (12 : Int)), (p0.op == (39 : Int)))).bind fun r71 => 
                  some (!r71)) : Option Bool).bind (fun v56_0 => 
            if v56_0 then
              outM (
                outM (
                  some false))
            else
              some (.go ()))) : Option (Out Unit _)).bind (Out.fin fun _ => 
          again (IntKind.wrap .i64 (i49_0 + (1 : Int))))
        else
          some (.go ())) (0 : Int)) : Option (Out Unit _)).bind (Out.fin fun _ => 
      if (p0.op == (8 : Int)) then
        (idx p0.kids (1 : Int)).bind fun x75 => 
        if (x75.op == (1 : Int)) then
          some (decide ((0 : Int) < (x75.num.num.length : Int)))
        else
          some false
      else
        if (p0.op == (9 : Int)) then
          (idx p0.kids (1 : Int)).bind fun x79 => 
          if (x79.op == (1 : Int)) then
            (r08_Natural K x79.num (20 : Int)).bind fun r82 => 
            some (decide ((0 : Int) ≤ r82))
          else
            some false
        else
          if (p0.op == (39 : Int)) then
            (idx p0.kids (0 : Int)).bind fun x85 => 
            (r08_differential K x85).bind fun r87 => 
            some r87
          else
            some true)))))
set_option maxHeartbeats 4000000 in
theorem r08_well_step (K : Nat) (self102 : (NodeA × Int × Bool × Bool) → Option Bool) (self116 : (NodeA × Bool × Bool) → Option Bool) (hself102 : ∀ (q : NodeA × Int × Bool × Bool) (r : Bool), self102 q = some r → Cn Tryz.prog 102 [aggV q.1.enc, .d (.val (.int .i64 q.2.1)), .d (.val (.bool q.2.2.1)), .d (.val (.bool q.2.2.2))] (.d (.val (.bool r)))) (hself116 : ∀ (q : NodeA × Bool × Bool) (r : Bool), self116 q = some r → Cn Tryz.prog 116 [aggV q.1.enc, .d (.val (.bool q.2.1)), .d (.val (.bool q.2.2))] (.d (.val (.bool r)))) (p0 : NodeA) (p1 : Int) (p2 : Bool) (p3 : Bool) (r : Bool) (h : r08_well_body K self102 self116 p0 p1 p2 p3 = some r) : Cn Tryz.prog 102 [aggV p0.enc, .d (.val (.int .i64 p1)), .d (.val (.bool p2)), .d (.val (.bool p3))] (.d (.val (.bool r))) := by
  have q0 := fun k z => cv_int (k' := k) (z := z) Tryz.underlying5 Tryz.underlying3
  refine Cn.oz Tryz.func102 Tryz.call102 Tryz.ntmps102 Tryz.results102 fun hfit => ?_
  unfold r08_well_body at h
  refine AW.kr [] [0, 1, 2, 3] ?_
  refine AW.ks [0] [1, 2, 3, 4] ?_
  refine AW.jo h (fun _ => [(2, vB p2), (3, vB p3), (4, .ptr 0 6 0 0)]) (fun _ => [vE p0.enc]) (fun oJ2 h hJ2 => ?_) fun ⟨⟩ h => ?_
  · refine AW.jn h (fun v3_0 => [(2, vB p2), (3, vB p3), (4, .ptr 0 6 0 0), (35, vB v3_0)]) (fun v3_0 => [vE p0.enc]) (fun oJ4 h => ?_) fun v3_0 h => ?_
    · refine AW.rp ?_
      refine pm h r08_Sort_ok fun r5 hx6 h => ?_
      refine sK h (fun hb7 h => ?_) fun hb7 h => ?_
      · exact ja [0] h
      refine pm h r08_named_ok fun r8 hx9 h => ?_
      refine pm h r08_Name_ok fun r10 hx11 h => ?_
      refine sK h (fun hb12 h => ?_) fun hb12 h => ?_
      · exact ja [0] h
      refine pm h r08_named_ok fun r13 hx14 h => ?_
      refine sK h (fun hb15 h => ?_) fun hb15 h => ?_
      · exact ja [0] h
      exact ja [0] h
    refine AW.tk h (fun hb16 h => ?_) fun hb16 h => ?_
    · refine AW.ro ?_
      refine AW.ret ?_
      have h := up h hJ2
      cases h; refine nz ?_; exact .same _
    exact jo [0] h
  refine AW.jo h (fun _ => [(2, vB p2), (3, vB p3), (4, .ptr 0 6 0 0)]) (fun _ => [vE p0.enc]) (fun oJ18 h hJ18 => ?_) fun ⟨⟩ h => ?_
  · refine AW.ro ?_
    refine AW.ks [0] [2, 3, 4, 38] ?_
    refine AW.tt h (fun hb19 h => ?_) fun hb19 h => ?_
    · refine AW.ro ?_
      refine cm h r08_natural_ok fun r20 hx21 h => ?_
      refine AW.ks [0] [2, 3, 4, 42] ?_
      refine AW.tk h (fun hb22 h => ?_) fun hb22 h => ?_
      · refine AW.ro ?_
        refine AW.ret ?_
        have h := up h hJ18
        cases h; refine nz ?_; exact .same _
      exact jo [0] h
    refine AW.jn h (fun v23_0 => [(2, vB p2), (3, vB p3), (4, .ptr 0 6 0 0), (59, vB v23_0)]) (fun v23_0 => [vE p0.enc]) (fun oJ24 h => ?_) fun v23_0 h => ?_
    · refine AW.rp ?_
      refine sK h (fun hb25 h => ?_) fun hb25 h => ?_
      · exact ja [0] h
      refine sK h (fun hb26 h => ?_) fun hb26 h => ?_
      · exact ja [0] h
      exact ja [0] h
    refine AW.tk h (fun hb27 h => ?_) fun hb27 h => ?_
    · refine AW.ro ?_
      refine AW.ret ?_
      have h := up h hJ18
      cases h; refine nz ?_; exact .same _
    exact jo [0] h
  refine AW.jo h (fun _ => [(2, vB p2), (3, vB p3), (4, .ptr 0 6 0 0)]) (fun _ => [vE p0.enc]) (fun oJ29 h hJ29 => ?_) fun ⟨⟩ h => ?_
  · refine AW.jn h (fun v30_0 => [(2, vB p2), (3, vB p3), (4, .ptr 0 6 0 0), (76, vB v30_0)]) (fun v30_0 => [vE p0.enc]) (fun oJ31 h => ?_) fun v30_0 h => ?_
    · refine AW.rp ?_
      refine sK h (fun hb32 h => ?_) fun hb32 h => ?_
      · refine sK h (fun hb33 h => ?_) fun hb33 h => ?_
        · exact ja [0] h
        exact ja [0] h
      refine sK h (fun hb34 h => ?_) fun hb34 h => ?_
      · exact ja [0] h
      exact ja [0] h
    refine AW.tk h (fun hb35 h => ?_) fun hb35 h => ?_
    · refine AW.ro ?_
      refine AW.ret ?_
      have h := up h hJ29
      cases h; refine nz ?_; exact .same _
    exact jo [0] h
  refine AW.one ?_
  refine AW.ro ?_
  refine AW.ks [0] [2, 3, 4, 79] ?_
  refine AW.tk h (fun hb36 h => ?_) fun hb36 h => ?_
  · refine AW.ro ?_
    refine cm h (hself116 _ _) fun r37 hx38 h => ?_
    refine AW.ret ?_
    cases h; refine nz ?_; exact .same _
  refine AW.kr [0] [2, 3, 4] ?_
  refine cm h r08_kids_ok fun r39 hx40 h => ?_
  refine AW.ks [0] [2, 3, 4, 9] ?_
  refine AW.jn h (fun v41_0 => [(2, vB p2), (3, vB p3), (4, .ptr 0 6 0 0), (9, vS v41_0)]) (fun v41_0 => [vE p0.enc]) (fun oJ42 h => ?_) fun v41_0 h => ?_
  · refine AW.jn h (fun v43_0 => [(2, vB p2), (3, vB p3), (4, .ptr 0 6 0 0), (9, vS r39), (94, vB v43_0)]) (fun v43_0 => [vE p0.enc]) (fun oJ44 h => ?_) fun v43_0 h => ?_
    · refine AW.rp ?_
      refine sK h (fun hb45 h => ?_) fun hb45 h => ?_
      · exact ja [0] h
      exact ja [0] h
    refine AW.tk h (fun hb46 h => ?_) fun hb46 h => ?_
    · refine AW.ro ?_
      refine AW.ks [0] [2, 3, 4, 9, 98] ?_
      refine AW.tk h (fun hb47 h => ?_) fun hb47 h => ?_
      · refine AW.rp ?_
        exact ja [0] h
      exact ja [0] h
    exact ja [0] h
  refine AW.one ?_
  refine AW.ro ?_
  refine AW.ks [0] [2, 3, 4, 9, 104] ?_
  refine AW.tk h (fun hb48 h => ?_) fun hb48 h => ?_
  · refine AW.ro ?_
    refine AW.ret ?_
    cases h; refine nz ?_; exact .same _
  refine AW.ks [0] [2, 3, 4, 9] ?_
  refine AW.one ?_
  refine AW.ro ?_
  refine AW.ks [0] [2, 3, 4, 9, 10] ?_
  refine AW.lp h (fun _ => [(4, .ptr 0 6 0 0)]) (fun _ => [vE p0.enc]) (fun i49_0 => [(2, vB p2), (3, vB p3), (4, .ptr 0 6 0 0), (9, vS v41_0), (10, vI i49_0)]) (fun i49_0 => [vE p0.enc]) [0] (fun oJ52 hJ52 again i49_0 h => ?_) fun ⟨⟩ h => ?_
  · refine AW.one ?_
    refine AW.ro ?_
    refine AW.ks [0] [2, 3, 4, 9, 10, 108] ?_
    refine AW.tt h (fun hb53 h => ?_) fun hb53 h => ?_
    · refine AW.sk ?_
      refine AW.ks [0] [2, 3, 4, 9, 10] ?_
      refine AW.jo h (fun _ => [(2, vB p2), (3, vB p3), (4, .ptr 0 6 0 0), (9, vS v41_0), (10, vI i49_0)]) (fun _ => [vE p0.enc]) (fun oJ55 h hJ55 => ?_) fun ⟨⟩ h => ?_
      · refine AW.block ?_
        refine AW.jn h (fun v56_0 => [(2, vB p2), (3, vB p3), (4, .ptr 0 6 0 0), (9, vS v41_0), (10, vI i49_0), (134, vB v56_0)]) (fun v56_0 => [vE p0.enc]) (fun oJ57 h => ?_) fun v56_0 h => ?_
        · refine AW.rp ?_
          refine bx h fun x58 h0 h1 h => ?_
          refine bb h fun c60 hx61 h => ?_
          refine sK h (fun hb62 h => ?_) fun hb62 h => ?_
          · refine sK h (fun hb63 h => ?_) fun hb63 h => ?_
            · refine pm h (hself102 _ _) fun r64 hx65 h => ?_
              exact ja [0] h
            refine pm h (hself102 _ _) fun r66 hx67 h => ?_
            exact ja [0] h
          refine sK h (fun hb68 h => ?_) fun hb68 h => ?_
          · refine pm h (hself102 _ _) fun r69 hx70 h => ?_
            exact ja [0] h
          refine pm h (hself102 _ _) fun r71 hx72 h => ?_
          exact ja [0] h
        refine AW.tk h (fun hb73 h => ?_) fun hb73 h => ?_
        · refine AW.ro ?_
          refine AW.ret ?_
          have h := up h hJ55
          have h := up h hJ52
          cases h; refine nz ?_; exact .same _
        exact jo [0] h
      refine AW.rp ?_
      exact na [0] h
    refine AW.ex ?_
    exact jo [0] h
  refine AW.ks [0] [4] ?_
  refine AW.one ?_
  refine AW.ro ?_
  refine AW.ks [0] [4, 136] ?_
  refine AW.block ?_
  refine AW.ro ?_
  refine AW.ks [0] [4, 136, 137] ?_
  refine AW.tt h (fun hb74 h => ?_) fun hb74 h => ?_
  · refine AW.ro ?_
    refine bx h fun x75 h0 h1 h => ?_
    refine sK h (fun hb77 h => ?_) fun hb77 h => ?_
    · refine AW.ret ?_
      cases h; refine nz ?_; exact .same _
    refine AW.ret ?_
    cases h; refine nz ?_; exact .same _
  refine AW.ro ?_
  refine AW.ks [0] [4, 136, 155] ?_
  refine AW.tt h (fun hb78 h => ?_) fun hb78 h => ?_
  · refine AW.ro ?_
    refine bx h fun x79 h0 h1 h => ?_
    refine sK h (fun hb81 h => ?_) fun hb81 h => ?_
    · refine cm h r08_Natural_ok fun r82 hx83 h => ?_
      refine AW.ret ?_
      cases h; refine nz ?_; exact .same _
    refine AW.ret ?_
    cases h; refine nz ?_; exact .same _
  refine AW.ro ?_
  refine AW.ks [0] [4, 172] ?_
  refine AW.tk h (fun hb84 h => ?_) fun hb84 h => ?_
  · refine AW.ro ?_
    refine bx h fun x85 h0 h1 h => ?_
    refine cm h r08_differential_ok fun r87 hx88 h => ?_
    refine AW.ret ?_
    cases h; refine nz ?_; exact .same _
  refine AW.kr [] [] ?_
  refine AW.ret ?_
  cases h; refine nz ?_; exact .same _
/-! ### isochrone/isochroneref08.flow -/
def r08_flow_body (K : Nat) (self102 : (NodeA × Int × Bool × Bool) → Option Bool) (self116 : (NodeA × Bool × Bool) → Option Bool) (p0 : NodeA) (p1 : Bool) (p2 : Bool) : Option Bool := ((
    ((
      if (decide ((p0.kids.length : Int) < (2 : Int))) then
        some true
      else
        (r08_primed K p0).bind fun r6 => 
        if r6 then
          some true
        else
          (idx p0.kids (IntKind.wrap .i64 ((p0.kids.length : Int) - (1 : Int)))).bind fun x9 => 
          (self102 (x9, (2 : Int), p1, p2)).bind fun r11 => 
          some (!r11)) : Option Bool).bind (fun v3_0 => 
    if v3_0 then
      outM (
        some false)
    else
      some (.go ()))) : Option (Out Unit _)).bind (Out.fin fun _ => 
  ((iter (S := Int) (R := Out Unit _) K (fun again i14_0 => 
    if (decide (i14_0 < (IntKind.wrap .i64 ((p0.kids.length : Int) - (1 : Int))))) then
      ((
        (idx p0.kids i14_0).bind fun x21 => 
        ((
          ((
            if (x21.op == (56 : Int)) then
              if (decide (i14_0 < (IntKind.wrap .i64 ((p0.kids.length : Int) - (2 : Int))))) then
                some true
              else
                if (x21.op != (56 : Int)) then
                  if (x21.op != (55 : Int)) then
                    some true
                  else
                    (self102 (x21, (4 : Int), p1, p2)).bind fun r31 => 
                    some (!r31)
                else
                  (self102 (x21, (4 : Int), p1, p2)).bind fun r33 => 
                  some (!r33)
            else
              if (x21.op != (56 : Int)) then
                if (x21.op != (55 : Int)) then
                  some true
                else
                  (self102 (x21, (4 : Int), p1, p2)).bind fun r37 => 
                  some (!r37)
              else
                (self102 (x21, (4 : Int), p1, p2)).bind fun r39 => 
                some (!r39)) : Option Bool).bind (fun v25_0 => 
          if v25_0 then
            outM (
              outM (
                outM (
                  some false)))
          else
            some (.go ()))) : Option (Out Unit _)).bind (Out.fin fun _ => 
        ((iter (S := Int) (R := Out Unit _) K (fun again i42_0 => 
          if (decide (i42_0 < i14_0)) then
            ((
              ((
                if (x21.op == (55 : Int)) then
                  (idx p0.kids i42_0).bind fun x52 => 
                  some (x52.name.toList == x21.name.toList)
                else
                  some false) : Option Bool).bind (fun v49_0 => 
              if v49_0 then
                outM (
                  outM (
                    outM (
                      outM (
                        some false))))
              else
                some (.go ()))) : Option (Out Unit _)).bind (Out.fin fun _ => 
            again (IntKind.wrap .i64 (i42_0 + (1 : Int))))
          else
            some (.go ())) (0 : Int)) : Option (Out Unit _)).bind (Out.fin fun _ => 
        some (.go ())))) : Option (Out Unit _)).bind (Out.fin fun _ => 
      again (IntKind.wrap .i64 (i14_0 + (1 : Int))))
    else
      some (.go ())) (0 : Int)) : Option (Out Unit _)).bind (Out.fin fun _ => 
  some true))
set_option maxHeartbeats 4000000 in
theorem r08_flow_step (K : Nat) (self102 : (NodeA × Int × Bool × Bool) → Option Bool) (self116 : (NodeA × Bool × Bool) → Option Bool) (hself102 : ∀ (q : NodeA × Int × Bool × Bool) (r : Bool), self102 q = some r → Cn Tryz.prog 102 [aggV q.1.enc, .d (.val (.int .i64 q.2.1)), .d (.val (.bool q.2.2.1)), .d (.val (.bool q.2.2.2))] (.d (.val (.bool r)))) (hself116 : ∀ (q : NodeA × Bool × Bool) (r : Bool), self116 q = some r → Cn Tryz.prog 116 [aggV q.1.enc, .d (.val (.bool q.2.1)), .d (.val (.bool q.2.2))] (.d (.val (.bool r)))) (p0 : NodeA) (p1 : Bool) (p2 : Bool) (r : Bool) (h : r08_flow_body K self102 self116 p0 p1 p2 = some r) : Cn Tryz.prog 116 [aggV p0.enc, .d (.val (.bool p1)), .d (.val (.bool p2))] (.d (.val (.bool r))) := by
  refine Cn.oz Tryz.func116 Tryz.call116 Tryz.ntmps116 Tryz.results116 fun hfit => ?_
  unfold r08_flow_body at h
  refine AW.kr [] [0, 1, 2] ?_
  refine AW.kr [0] [1, 2, 3] ?_
  refine AW.ks [0] [1, 2, 3, 7] ?_
  refine AW.jo h (fun _ => [(1, vB p1), (2, vB p2), (3, .ptr 0 6 0 0), (7, vI (p0.kids.length : Int))]) (fun _ => [vE p0.enc]) (fun oJ2 h hJ2 => ?_) fun ⟨⟩ h => ?_
  · refine AW.jn h (fun v3_0 => [(1, vB p1), (2, vB p2), (3, .ptr 0 6 0 0), (7, vI (p0.kids.length : Int)), (31, vB v3_0)]) (fun v3_0 => [vE p0.enc]) (fun oJ4 h => ?_) fun v3_0 h => ?_
    · refine AW.rp ?_
      refine sK h (fun hb5 h => ?_) fun hb5 h => ?_
      · exact ja [0] h
      refine cm h r08_primed_ok fun r6 hx7 h => ?_
      refine sK h (fun hb8 h => ?_) fun hb8 h => ?_
      · exact ja [0] h
      refine bx h fun x9 h0 h1 h => ?_
      refine cm h (hself102 _ _) fun r11 hx12 h => ?_
      exact ja [0] h
    refine AW.tk h (fun hb13 h => ?_) fun hb13 h => ?_
    · refine AW.ro ?_
      refine AW.ret ?_
      have h := up h hJ2
      cases h; refine nz ?_; exact .same _
    exact jo [0] h
  refine AW.one ?_
  refine AW.ro ?_
  refine AW.ks [0] [1, 2, 3, 7, 8] ?_
  refine AW.lp h (fun _ => []) (fun _ => []) (fun i14_0 => [(1, vB p1), (2, vB p2), (3, .ptr 0 6 0 0), (7, vI (p0.kids.length : Int)), (8, vI i14_0)]) (fun i14_0 => [vE p0.enc]) [0] (fun oJ17 hJ17 again i14_0 h => ?_) fun ⟨⟩ h => ?_
  · refine AW.one ?_
    refine AW.ro ?_
    refine AW.ks [0] [1, 2, 3, 7, 8, 35] ?_
    refine AW.tt h (fun hb18 h => ?_) fun hb18 h => ?_
    · refine AW.sk ?_
      refine AW.ks [0] [1, 2, 3, 7, 8] ?_
      refine AW.jo h (fun _ => [(1, vB p1), (2, vB p2), (3, .ptr 0 6 0 0), (7, vI (p0.kids.length : Int)), (8, vI i14_0)]) (fun _ => [vE p0.enc]) (fun oJ20 h hJ20 => ?_) fun ⟨⟩ h => ?_
      · refine AW.block ?_
        refine AW.ro ?_
        refine bx h fun x21 h0 h1 h => ?_
        refine AW.ks [0, 6] [1, 2, 3, 7, 8, 9] ?_
        refine AW.jo h (fun _ => [(1, vB p1), (2, vB p2), (3, .ptr 0 6 0 0), (7, vI (p0.kids.length : Int)), (8, vI i14_0), (9, .ptr 1 6 0 0)]) (fun _ => [vE p0.enc, vE x21.enc]) (fun oJ24 h hJ24 => ?_) fun ⟨⟩ h => ?_
        · refine AW.jn h (fun v25_0 => [(1, vB p1), (2, vB p2), (3, .ptr 0 6 0 0), (7, vI (p0.kids.length : Int)), (8, vI i14_0), (9, .ptr 1 6 0 0), (68, vB v25_0)]) (fun v25_0 => [vE p0.enc, vE x21.enc]) (fun oJ26 h => ?_) fun v25_0 h => ?_
          · refine AW.rp ?_
            refine sK h (fun hb27 h => ?_) fun hb27 h => ?_
            · refine sK h (fun hb28 h => ?_) fun hb28 h => ?_
              · exact ja [0, 1] h
              refine sK h (fun hb29 h => ?_) fun hb29 h => ?_
              · refine sK h (fun hb30 h => ?_) fun hb30 h => ?_
                · exact ja [0, 1] h
                refine cm h (hself102 _ _) fun r31 hx32 h => ?_
                exact ja [0, 1] h
              refine cm h (hself102 _ _) fun r33 hx34 h => ?_
              exact ja [0, 1] h
            refine sK h (fun hb35 h => ?_) fun hb35 h => ?_
            · refine sK h (fun hb36 h => ?_) fun hb36 h => ?_
              · exact ja [0, 1] h
              refine cm h (hself102 _ _) fun r37 hx38 h => ?_
              exact ja [0, 1] h
            refine cm h (hself102 _ _) fun r39 hx40 h => ?_
            exact ja [0, 1] h
          refine AW.tk h (fun hb41 h => ?_) fun hb41 h => ?_
          · refine AW.ro ?_
            refine AW.ret ?_
            have h := up h hJ24
            have h := up h hJ20
            have h := up h hJ17
            cases h; refine nz ?_; exact .same _
          exact jo [0, 1] h
        refine AW.ro ?_
        refine AW.ks [0, 1] [1, 2, 3, 7, 8, 9, 10] ?_
        refine AW.lp h (fun _ => [(1, vB p1), (2, vB p2), (3, .ptr 0 6 0 0), (7, vI (p0.kids.length : Int)), (8, vI i14_0)]) (fun _ => [vE p0.enc]) (fun i42_0 => [(1, vB p1), (2, vB p2), (3, .ptr 0 6 0 0), (7, vI (p0.kids.length : Int)), (8, vI i14_0), (9, .ptr 1 6 0 0), (10, vI i42_0)]) (fun i42_0 => [vE p0.enc, vE x21.enc]) [0, 1] (fun oJ45 hJ45 again i42_0 h => ?_) fun ⟨⟩ h => ?_
        · refine AW.one ?_
          refine AW.ro ?_
          refine AW.ks [0, 1] [1, 2, 3, 7, 8, 9, 10, 71] ?_
          refine AW.tt h (fun hb46 h => ?_) fun hb46 h => ?_
          · refine AW.sk ?_
            refine AW.ks [0, 1] [1, 2, 3, 7, 8, 9, 10] ?_
            refine AW.jo h (fun _ => [(1, vB p1), (2, vB p2), (3, .ptr 0 6 0 0), (7, vI (p0.kids.length : Int)), (8, vI i14_0), (9, .ptr 1 6 0 0), (10, vI i42_0)]) (fun _ => [vE p0.enc, vE x21.enc]) (fun oJ48 h hJ48 => ?_) fun ⟨⟩ h => ?_
            · refine AW.block ?_
              refine AW.jn h (fun v49_0 => [(1, vB p1), (2, vB p2), (3, .ptr 0 6 0 0), (7, vI (p0.kids.length : Int)), (8, vI i14_0), (9, .ptr 1 6 0 0), (10, vI i42_0), (87, vB v49_0)]) (fun v49_0 => [vE p0.enc, vE x21.enc]) (fun oJ50 h => ?_) fun v49_0 h => ?_
              · refine AW.rp ?_
                refine sK h (fun hb51 h => ?_) fun hb51 h => ?_
                · refine bx h fun x52 h0 h1 h => ?_
                  exact ja [0, 1] h
                exact ja [0, 1] h
              refine AW.tk h (fun hb54 h => ?_) fun hb54 h => ?_
              · refine AW.ro ?_
                refine AW.ret ?_
                have h := up h hJ48
                have h := up h hJ45
                have h := up h hJ20
                have h := up h hJ17
                cases h; refine nz ?_; exact .same _
              exact jo [0, 1] h
            refine AW.rp ?_
            exact na [0, 1] h
          refine AW.ex ?_
          exact jo [0] h
        exact jo [0] h
      refine AW.rp ?_
      exact na [0] h
    refine AW.ex ?_
    exact jo [] h
  refine AW.kr [] [] ?_
  refine AW.ret ?_
  cases h; refine nz ?_; exact .same _
def grp_r08_well (K : Nat) : Nat → ((NodeA × Int × Bool × Bool) → Option Bool) × ((NodeA × Bool × Bool) → Option Bool)
  | 0 => (fun _ => none, fun _ => none)
  | k + 1 => (fun q => r08_well_body K (grp_r08_well K k).1 (grp_r08_well K k).2 q.1 q.2.1 q.2.2.1 q.2.2.2, fun q => r08_flow_body K (grp_r08_well K k).1 (grp_r08_well K k).2 q.1 q.2.1 q.2.2)
def r08_well (K : Nat) (p0 : NodeA) (p1 : Int) (p2 : Bool) (p3 : Bool) : Option Bool := (grp_r08_well K K).1 (p0, p1, p2, p3)
theorem key_r08_well {K : Nat} (k : Nat) : (∀ (q : NodeA × Int × Bool × Bool) (r : Bool), (grp_r08_well K k).1 q = some r → Cn Tryz.prog 102 [aggV q.1.enc, .d (.val (.int .i64 q.2.1)), .d (.val (.bool q.2.2.1)), .d (.val (.bool q.2.2.2))] (.d (.val (.bool r)))) ∧ (∀ (q : NodeA × Bool × Bool) (r : Bool), (grp_r08_well K k).2 q = some r → Cn Tryz.prog 116 [aggV q.1.enc, .d (.val (.bool q.2.1)), .d (.val (.bool q.2.2))] (.d (.val (.bool r)))) := by
  induction k with
  | zero => exact ⟨(fun q r h => nomatch (show (none : Option _) = some r from h)), (fun q r h => nomatch (show (none : Option _) = some r from h))⟩
  | succ k ih => exact ⟨fun q r h => r08_well_step K _ _ ih.1 ih.2 q.1 q.2.1 q.2.2.1 q.2.2.2 r h, fun q r h => r08_flow_step K _ _ ih.1 ih.2 q.1 q.2.1 q.2.2 r h⟩
theorem r08_well_ok {K : Nat} {p0 : NodeA} {p1 : Int} {p2 : Bool} {p3 : Bool} {r : Bool} (h : r08_well K p0 p1 p2 p3 = some r) : Cn Tryz.prog 102 [aggV p0.enc, .d (.val (.int .i64 p1)), .d (.val (.bool p2)), .d (.val (.bool p3))] (.d (.val (.bool r))) := (key_r08_well K).1 (p0, p1, p2, p3) r h
/-! ### isochrone/isochroneref08.Check -/
def r08_Check (K : Nat) (p0 : NodeA) (p1 : Int) : Option Int := ((
    if (decide (p1 < (1 : Int))) then
      some true
    else
      some (decide ((3 : Int) < p1))) : Option Bool).bind (fun v1_0 => 
  if v1_0 then
    some (1 : Int)
  else
    ((
      (r08_Size K p0).bind fun r7 => 
      if (decide ((4000 : Int) < r7)) then
        some true
      else
        (r08_Levels K p0).bind fun r10 => 
        some (decide ((60 : Int) < r10))) : Option Bool).bind (fun v5_0 => 
    if v5_0 then
      some (2 : Int)
    else
      (r08_Sort K p0.op).bind fun r13 => 
      if (r13 != p1) then
        some (80 : Int)
      else
        (r08_well K p0 p1 false false).bind fun r16 => 
        if (!r16) then
          some (3 : Int)
        else
          some (0 : Int)))
set_option maxHeartbeats 4000000 in
theorem r08_Check_ok {K : Nat} {p0 : NodeA} {p1 : Int} {r : Int} (h : r08_Check K p0 p1 = some r) : Cn Tryz.prog 74 [aggV p0.enc, .d (.val (.int .i64 p1))] (.d (.val (.int .i64 r))) := by
  refine Cn.oz Tryz.func74 Tryz.call74 Tryz.ntmps74 Tryz.results74 fun hfit => ?_
  unfold r08_Check at h
  refine AW.kr [] [0, 1] ?_
  refine AW.ks [0] [1, 2] ?_
  refine AW.one ?_
  refine AW.block ?_
  refine AW.jn h (fun v1_0 => [(1, vI p1), (2, .ptr 0 6 0 0), (5, vB v1_0)]) (fun v1_0 => [vE p0.enc]) (fun oJ2 h => ?_) fun v1_0 h => ?_
  · refine AW.rp ?_
    refine sK h (fun hb3 h => ?_) fun hb3 h => ?_
    · exact ja [0] h
    exact ja [0] h
  refine AW.tt h (fun hb4 h => ?_) fun hb4 h => ?_
  · refine AW.ro ?_
    refine AW.ret ?_
    cases h; refine nz ?_; exact .same _
  refine AW.jn h (fun v5_0 => [(1, vI p1), (2, .ptr 0 6 0 0), (12, vB v5_0)]) (fun v5_0 => [vE p0.enc]) (fun oJ6 h => ?_) fun v5_0 h => ?_
  · refine AW.rp ?_
    refine cm h r08_Size_ok fun r7 hx8 h => ?_
    refine sK h (fun hb9 h => ?_) fun hb9 h => ?_
    · exact ja [0] h
    refine cm h r08_Levels_ok fun r10 hx11 h => ?_
    exact ja [0] h
  refine AW.tt h (fun hb12 h => ?_) fun hb12 h => ?_
  · refine AW.ro ?_
    refine AW.ret ?_
    cases h; refine nz ?_; exact .same _
  refine AW.ro ?_
  refine cm h r08_Sort_ok fun r13 hx14 h => ?_
  refine AW.ks [0] [1, 2, 21] ?_
  refine AW.tt h (fun hb15 h => ?_) fun hb15 h => ?_
  · refine AW.ro ?_
    refine AW.ret ?_
    cases h; refine nz ?_; exact .same _
  refine AW.ro ?_
  refine cm h r08_well_ok fun r16 hx17 h => ?_
  refine AW.ks [] [27] ?_
  refine AW.tk h (fun hb18 h => ?_) fun hb18 h => ?_
  · refine AW.ro ?_
    refine AW.ret ?_
    cases h; refine nz ?_; exact .same _
  refine AW.kr [] [] ?_
  refine AW.ret ?_
  cases h; refine nz ?_; exact .same _
/-! ### isochrone/isochroneref08.whole -/
def r08_whole (K : Nat) (p0 : NodeA) : Option Int := (r08_Sort K p0.op).bind fun r1 => 
  ((
    ((
      if (r1 == (0 : Int)) then
        some true
      else
        some (r1 == (4 : Int))) : Option Bool).bind (fun v5_0 => 
    if v5_0 then
      outM (
        some (80 : Int))
    else
      some (.go ()))) : Option (Out Unit _)).bind (Out.fin fun _ => 
  (r08_Check K p0 r1).bind fun r9 => 
  some r9)
set_option maxHeartbeats 4000000 in
theorem r08_whole_ok {K : Nat} {p0 : NodeA} {r : Int} (h : r08_whole K p0 = some r) : Cn Tryz.prog 75 [aggV p0.enc] (.d (.val (.int .i64 r))) := by
  refine Cn.oz Tryz.func75 Tryz.call75 Tryz.ntmps75 Tryz.results75 fun hfit => ?_
  unfold r08_whole at h
  refine AW.kr [] [0] ?_
  refine AW.kr [0] [1] ?_
  refine cm h r08_Sort_ok fun r1 hx2 h => ?_
  refine AW.ks [0] [1, 3] ?_
  refine AW.jo h (fun _ => [(1, .ptr 0 6 0 0), (3, vI r1)]) (fun _ => [vE p0.enc]) (fun oJ4 h hJ4 => ?_) fun ⟨⟩ h => ?_
  · refine AW.jn h (fun v5_0 => [(1, .ptr 0 6 0 0), (3, vI r1), (12, vB v5_0)]) (fun v5_0 => [vE p0.enc]) (fun oJ6 h => ?_) fun v5_0 h => ?_
    · refine AW.rp ?_
      refine sK h (fun hb7 h => ?_) fun hb7 h => ?_
      · exact ja [0] h
      exact ja [0] h
    refine AW.tk h (fun hb8 h => ?_) fun hb8 h => ?_
    · refine AW.ro ?_
      refine AW.ret ?_
      have h := up h hJ4
      cases h; refine nz ?_; exact .same _
    exact jo [0] h
  refine AW.ro ?_
  refine cm h r08_Check_ok fun r9 hx10 h => ?_
  refine AW.ret ?_
  cases h; refine nz ?_; exact .same _
/-! ### isochrone/isochroneref08.At -/
def r08_At (K : Nat) (p0 : NodeA) (p1 : List Int) : Option (NodeA × Int) := (r08_whole K p0).bind fun r1 => 
  if (r1 != (0 : Int)) then
    some ((NodeA.mk (0 : Int) (⟨#[]⟩ : ByteArray) (RatA.mk false [] []) []), r1)
  else
    (r08_at K p0 p1).bind fun r4 => 
    if (!r4.2) then
      some ((NodeA.mk (0 : Int) (⟨#[]⟩ : ByteArray) (RatA.mk false [] []) []), (1 : Int))
    else
      some (r4.1, (0 : Int))
set_option maxHeartbeats 4000000 in
theorem r08_At_ok {K : Nat} {p0 : NodeA} {p1 : List Int} {r : NodeA × Int} (h : r08_At K p0 p1 = some r) : Cn Tryz.prog 34 [aggV p0.enc, .d (slD i64V p1)] (.tup [aggV r.1.enc, .d (.val (.int .i64 r.2))]) := by
  refine Cn.oz Tryz.func34 Tryz.call34 Tryz.ntmps34 Tryz.results34 fun hfit => ?_
  unfold r08_At at h
  refine AW.kr [] [0, 1] ?_
  refine AW.ks [0, 1] [1, 2, 4] ?_
  refine AW.one ?_
  refine AW.ro ?_
  refine cm h r08_whole_ok fun r1 hx2 h => ?_
  refine AW.kr [0, 1] [1, 2, 4, 6] ?_
  refine AW.ks [0, 1] [1, 2, 4, 6, 12] ?_
  refine AW.tk h (fun hb3 h => ?_) fun hb3 h => ?_
  · refine AW.ro ?_
    refine AW.ret ?_
    cases h; refine nz ?_; exact .tupL ⟨.aggL ⟨.same _, .same _, .same _, .nil, .nil, .nil, trivial⟩, .same _, trivial⟩
  refine AW.kr [0, 1] [1, 2, 4] ?_
  refine cm h r08_at_ok fun r4 hx5 h => ?_
  refine AW.ks [1, 8] [4, 7, 8] ?_
  refine AW.one ?_
  refine AW.ro ?_
  refine AW.ks [0, 1] [4, 7, 22] ?_
  refine AW.tk h (fun hb6 h => ?_) fun hb6 h => ?_
  · refine AW.ro ?_
    refine AW.ret ?_
    cases h; refine nz ?_; exact .tupL ⟨.aggL ⟨.same _, .same _, .same _, .nil, .nil, .nil, trivial⟩, .same _, trivial⟩
  refine AW.kr [0, 1] [4, 7] ?_
  refine AW.ret ?_
  cases h; refine nz ?_; exact .same _
/-! ### isochrone/isochroneref08.Put -/
def r08_Put_body (K : Nat) (self39 : (NodeA × (List Int) × NodeA) → Option NodeA) (p0 : NodeA) (p1 : List Int) (p2 : NodeA) : Option NodeA := if ((p1.length : Int) == (0 : Int)) then
    some p2
  else
    (makO 104 (p0.kids.length : Int) (NodeA.mk (0 : Int) (⟨#[]⟩ : ByteArray) (RatA.mk false [] []) [])).bind fun l2 => 
    (copyO l2 p0.kids).bind fun l4 => 
    (idx p1 (0 : Int)).bind fun x6 => 
    (idx l4 x6).bind fun x8 => 
    (cutL p1 (some (1 : Int)) none).bind fun s10 => 
    (self39 (x8, s10, p2)).bind fun r12 => 
    some (NodeA.mk p0.op p0.name p0.num (l4.set (x6.toNat) r12))
set_option maxHeartbeats 4000000 in
theorem r08_Put_step (K : Nat) (self39 : (NodeA × (List Int) × NodeA) → Option NodeA) (hself39 : ∀ (q : NodeA × (List Int) × NodeA) (r : NodeA), self39 q = some r → Cn Tryz.prog 39 [aggV q.1.enc, .d (slD i64V q.2.1), aggV q.2.2.enc] (aggV r.enc)) (p0 : NodeA) (p1 : List Int) (p2 : NodeA) (r : NodeA) (h : r08_Put_body K self39 p0 p1 p2 = some r) : Cn Tryz.prog 39 [aggV p0.enc, .d (slD i64V p1), aggV p2.enc] (aggV r.enc) := by
  refine Cn.ofA mixed Tryz.func39 rfl Tryz.call39 Tryz.ntmps39 Tryz.results39 (by simp) (by simp only [go_sem, reduceEqDiff, reduceAdd, reduceSub, reduceMul, reduceLeDiff, reduceLT, Nat.reduceBEq, reduceIte]) fun hfit => ?_
  unfold r08_Put_body at h
  refine AW.kp [] [0, 1, 2] ?_
  refine AW.op mixed ?_
  refine AW.kp [0, 1, 2] [1, 3, 5, 6] ?_
  refine AW.one ?_
  refine AW.op mixed ?_
  refine AW.kp [0, 1, 2] [1, 3, 5, 6, 10] ?_
  refine AW.ts ((p1.length : Int) == (0 : Int)) (fun hb1 => ?_) (fun hb1 => ?_)
  · have h := ifT hb1 h
    refine AW.op mixed ?_
    refine AW.ret ?_
    obtain rfl := Option.some.inj h
    refine nz ?_
    exact .same _
  have h := ifF hb1 h
  refine AW.sk ?_
  refine AW.kp [0, 1, 2] [1, 3, 5, 6] ?_
  refine AW.op mixed ?_
  apply obindE h; intro l2 hx3 h
  refine makG (f := NodeA.enc) hx3 (nz ?_) ?_
  · exact ⟨.same _, .same _, .same _, .nil, .nil, .nil, trivial⟩
  try simp only [go_sem, reduceEqDiff, reduceAdd, reduceSub, reduceMul, reduceLeDiff, reduceLT, Nat.reduceBEq, reduceIte]
  refine AW.cu [0, 1, 2, 6] [(1, .d (slD i64V p1)), (3, .ptr 0 6 0 0), (5, .ptr 1 6 0 0), (6, .ptr 2 6 0 0), (7, .msl 3 6 0 (l2.length))] [some ⟨6, [[.d (.val (.int .i64 p0.op)), .d (.val (.string p0.name)), .d (.val (.bool p0.num.neg)), .d (slD u32V p0.num.num), .d (slD u32V p0.num.den), .d (slD NodeA.enc p0.kids)]]⟩, some ⟨6, [[.d (.val (.int .i64 p2.op)), .d (.val (.string p2.name)), .d (.val (.bool p2.num.neg)), .d (slD u32V p2.num.num), .d (slD u32V p2.num.den), .d (slD NodeA.enc p2.kids)]]⟩, some ⟨6, [[.d (.val (.int .i64 (0 : Int))), .d (.val (.string (⟨#[]⟩ : ByteArray))), .d (.val (.bool false)), .d (.val (.slice none 0 0)), .d (.val (.slice none 0 0)), .d (.val (.slice none 0 0))]]⟩, some ⟨6, (l2.map NodeA.enc).map (·.map .d)⟩] ?_
  refine AW.op mixed ?_
  apply obindE h; intro l4 hx5 h
  refine copyG (f := NodeA.enc) hx5 (by simp only [go_sem, reduceEqDiff, reduceAdd, reduceSub, reduceMul, reduceLeDiff, reduceLT, Nat.reduceBEq, reduceIte]) (by simp only [go_sem, reduceEqDiff, reduceAdd, reduceSub, reduceMul, reduceLeDiff, reduceLT, Nat.reduceBEq, reduceIte]) (by simp only [go_sem, reduceEqDiff, reduceAdd, reduceSub, reduceMul, reduceLeDiff, reduceLT, Nat.reduceBEq, reduceIte]) ?_
  try simp only [go_sem, reduceEqDiff, reduceAdd, reduceSub, reduceMul, reduceLeDiff, reduceLT, Nat.reduceBEq, reduceIte, copyO_len hx5]
  refine AW.cut [0, 1, 2, 3] [(1, .d (slD i64V p1)), (3, .ptr 0 6 0 0), (5, .ptr 1 6 0 0), (6, .ptr 2 6 0 0), (7, .msl 3 6 0 (l4.length))] [some ⟨6, [[.d (.val (.int .i64 p0.op)), .d (.val (.string p0.name)), .d (.val (.bool p0.num.neg)), .d (slD u32V p0.num.num), .d (slD u32V p0.num.den), .d (slD NodeA.enc p0.kids)]]⟩, some ⟨6, [[.d (.val (.int .i64 p2.op)), .d (.val (.string p2.name)), .d (.val (.bool p2.num.neg)), .d (slD u32V p2.num.num), .d (slD u32V p2.num.den), .d (slD NodeA.enc p2.kids)]]⟩, some ⟨6, [[.d (.val (.int .i64 (0 : Int))), .d (.val (.string (⟨#[]⟩ : ByteArray))), .d (.val (.bool false)), .d (.val (.slice none 0 0)), .d (.val (.slice none 0 0)), .d (.val (.slice none 0 0))]]⟩, some ⟨6, (l4.map NodeA.enc).map (·.map .d)⟩] (by simp only [go_sem, reduceEqDiff, reduceAdd, reduceSub, reduceMul, reduceLeDiff, reduceLT, Nat.reduceBEq, reduceIte, copyO_len hx5]) ?_
  refine AW.one ?_
  refine AW.reg mixed (by kernel_rfl) ?_
  apply obindE h; intro x6 hx7 h
  try simp only [go_sem, reduceEqDiff, reduceAdd, reduceSub, reduceMul, reduceLeDiff, reduceLT, Nat.reduceBEq, reduceIte, (idx_some hx7).1, (idx_some hx7).2]
  apply obindE h; intro x8 hx9 h
  apply obindE h; intro s10 hx11 h
  try simp only [go_sem, reduceEqDiff, reduceAdd, reduceSub, reduceMul, reduceLeDiff, reduceLT, Nat.reduceBEq, reduceIte, (idx_some hx7).1, (idx_some hx7).2, (idx_some hx9).1, idx_lt hx9, (idx_some hx9).2, hx11]
  apply obindE h; intro r12 hx13 h
  have hc := nx (hself39 _ _ hx13)
  refine pcallK_intro hc (by simp only [go_sem, reduceEqDiff, reduceAdd, reduceSub, reduceMul, reduceLeDiff, reduceLT, Nat.reduceBEq, reduceIte]) ?_
  try simp only [go_sem, reduceEqDiff, reduceAdd, reduceSub, reduceMul, reduceLeDiff, reduceLT, Nat.reduceBEq, reduceIte, (idx_some hx7).1, (idx_some hx7).2, (idx_some hx9).1, idx_lt hx9, (idx_some hx9).2, hx11, List.length_set, (rows_set (l := l4) (f := NodeA.enc) (i := x6.toNat) (v' := r12) (row := [.d (.val (.int .i64 r12.op)), .d (.val (.string r12.name)), .d (.val (.bool r12.num.neg)), .d (slD u32V r12.num.num), .d (slD u32V r12.num.den), .d (slD NodeA.enc r12.kids)]) (by simp only [go_sem, reduceEqDiff, reduceAdd, reduceSub, reduceMul, reduceLeDiff, reduceLT, Nat.reduceBEq, reduceIte]))]
  refine AW.cut [0, 2, 3] [(3, .ptr 0 6 0 0), (6, .ptr 1 6 0 0), (7, .msl 2 6 0 ((l4.set (x6.toNat) r12).length))] [some ⟨6, [[.d (.val (.int .i64 p0.op)), .d (.val (.string p0.name)), .d (.val (.bool p0.num.neg)), .d (slD u32V p0.num.num), .d (slD u32V p0.num.den), .d (slD NodeA.enc p0.kids)]]⟩, some ⟨6, [[.d (.val (.int .i64 (0 : Int))), .d (.val (.string (⟨#[]⟩ : ByteArray))), .d (.val (.bool false)), .d (.val (.slice none 0 0)), .d (.val (.slice none 0 0)), .d (.val (.slice none 0 0))]]⟩, some ⟨6, ((l4.set (x6.toNat) r12).map NodeA.enc).map (·.map .d)⟩] (by simp only [go_sem, reduceEqDiff, reduceAdd, reduceSub, reduceMul, reduceLeDiff, reduceLT, Nat.reduceBEq, reduceIte, (idx_some hx7).1, (idx_some hx7).2, (idx_some hx9).1, idx_lt hx9, (idx_some hx9).2, hx11, List.length_set, (rows_set (l := l4) (f := NodeA.enc) (i := x6.toNat) (v' := r12) (row := [.d (.val (.int .i64 r12.op)), .d (.val (.string r12.name)), .d (.val (.bool r12.num.neg)), .d (slD u32V r12.num.num), .d (slD u32V r12.num.den), .d (slD NodeA.enc r12.kids)]) (by simp only [go_sem, reduceEqDiff, reduceAdd, reduceSub, reduceMul, reduceLeDiff, reduceLT, Nat.reduceBEq, reduceIte]))]) ?_
  refine AW.op mixed ?_
  refine AW.cu [0, 2, 1] [(3, .ptr 0 6 0 0), (6, .ptr 2 6 0 0)] [some ⟨6, [[.d (.val (.int .i64 p0.op)), .d (.val (.string p0.name)), .d (.val (.bool p0.num.neg)), .d (slD u32V p0.num.num), .d (slD u32V p0.num.den), .msl 1 6 0 ((l4.set (x6.toNat) r12).length)]]⟩, some ⟨6, ((l4.set (x6.toNat) r12).map NodeA.enc).map (·.map .d)⟩, some ⟨6, [[.d (.val (.int .i64 (0 : Int))), .d (.val (.string (⟨#[]⟩ : ByteArray))), .d (.val (.bool false)), .d (.val (.slice none 0 0)), .d (.val (.slice none 0 0)), .d (.val (.slice none 0 0))]]⟩] ?_
  refine AW.op mixed ?_
  refine AW.ret ?_
  obtain rfl := Option.some.inj h
  refine nz ?_
  exact .aggL ⟨.same _, .same _, .same _, .same _, .same _, sealArr (by simp only [go_sem, reduceEqDiff, reduceAdd, reduceSub, reduceMul, reduceLeDiff, reduceLT, Nat.reduceBEq, reduceIte]), trivial⟩
def r08_Put (K : Nat) (p0 : NodeA) (p1 : List Int) (p2 : NodeA) : Option NodeA := iter K (fun self q => r08_Put_body K self q.1 q.2.1 q.2.2) (p0, p1, p2)
theorem key_r08_Put {K : Nat} (k : Nat) : (∀ (q : NodeA × (List Int) × NodeA) (r : NodeA), iter k (fun self q => r08_Put_body K self q.1 q.2.1 q.2.2) q = some r → Cn Tryz.prog 39 [aggV q.1.enc, .d (slD i64V q.2.1), aggV q.2.2.enc] (aggV r.enc)) := by
  induction k with
  | zero => exact fun q r h => by cases h
  | succ k ih => exact fun q r h => r08_Put_step K _ ih q.1 q.2.1 q.2.2 r h
theorem r08_Put_ok {K : Nat} {p0 : NodeA} {p1 : List Int} {p2 : NodeA} {r : NodeA} (h : r08_Put K p0 p1 p2 = some r) : Cn Tryz.prog 39 [aggV p0.enc, .d (slD i64V p1), aggV p2.enc] (aggV r.enc) := (key_r08_Put K) (p0, p1, p2) r h
/-! ### isochrone/isochroneref18.variable -/
def r18_variable (K : Nat) (p0 : Int) : Option Bool := ((
    if (p0 == (2 : Int)) then
      some (p0 == (2 : Int))
    else
      if (p0 == (3 : Int)) then
        some (p0 == (3 : Int))
      else
        if (p0 == (50 : Int)) then
          some (p0 == (50 : Int))
        else
          if (p0 == (51 : Int)) then
            some (p0 == (51 : Int))
          else
            if (p0 == (52 : Int)) then
              some (p0 == (52 : Int))
            else
              if (p0 == (55 : Int)) then
                some (p0 == (55 : Int))
              else
                if (p0 == (33 : Int)) then
                  some (p0 == (33 : Int))
                else
                  some (p0 == (34 : Int))) : Option Bool).bind (fun v1_0 => 
  if v1_0 then
    some true
  else
    some false)
set_option maxHeartbeats 4000000 in
theorem r18_variable_ok {K : Nat} {p0 : Int} {r : Bool} (h : r18_variable K p0 = some r) : Cn Tryz.prog 80 [.d (.val (.int .i64 p0))] (.d (.val (.bool r))) := by
  refine Cn.oz Tryz.func80 Tryz.call80 Tryz.ntmps80 Tryz.results80 fun hfit => ?_
  unfold r18_variable at h
  refine AW.kr [] [0] ?_
  refine AW.ks [] [0] ?_
  refine AW.one ?_
  refine AW.ro ?_
  refine AW.ks [] [3] ?_
  refine AW.block ?_
  refine AW.jn h (fun v1_0 => [(4, vB v1_0)]) (fun v1_0 => []) (fun oJ2 h => ?_) fun v1_0 h => ?_
  · refine AW.ro ?_
    refine AW.ks [] [3, 4] ?_
    refine AW.tt h (fun hb3 h => ?_) fun hb3 h => ?_
    · refine AW.sk ?_
      exact ja [] h
    refine AW.ro ?_
    refine AW.ks [] [3, 4] ?_
    refine AW.tt h (fun hb4 h => ?_) fun hb4 h => ?_
    · refine AW.sk ?_
      exact ja [] h
    refine AW.ro ?_
    refine AW.ks [] [3, 4] ?_
    refine AW.tt h (fun hb5 h => ?_) fun hb5 h => ?_
    · refine AW.sk ?_
      exact ja [] h
    refine AW.ro ?_
    refine AW.ks [] [3, 4] ?_
    refine AW.tt h (fun hb6 h => ?_) fun hb6 h => ?_
    · refine AW.sk ?_
      exact ja [] h
    refine AW.ro ?_
    refine AW.ks [] [3, 4] ?_
    refine AW.tt h (fun hb7 h => ?_) fun hb7 h => ?_
    · refine AW.sk ?_
      exact ja [] h
    refine AW.ro ?_
    refine AW.ks [] [3, 4] ?_
    refine AW.tt h (fun hb8 h => ?_) fun hb8 h => ?_
    · refine AW.sk ?_
      exact ja [] h
    refine AW.ro ?_
    refine AW.ks [] [3, 4] ?_
    refine AW.tt h (fun hb9 h => ?_) fun hb9 h => ?_
    · refine AW.sk ?_
      exact ja [] h
    refine AW.rp ?_
    exact ja [] h
  refine AW.tk h (fun hb10 h => ?_) fun hb10 h => ?_
  · refine AW.ro ?_
    refine AW.ret ?_
    cases h; refine nz ?_; exact .same _
  refine AW.kr [] [] ?_
  refine AW.ret ?_
  cases h; refine nz ?_; exact .same _
/-! ### isochrone/isochroneref18.Exchange -/
def r18_Exchange_body (K : Nat) (self41 : (NodeA × ByteArray × ByteArray) → Option NodeA) (p0 : NodeA) (p1 : ByteArray) (p2 : ByteArray) : Option NodeA := ((
    (r18_variable K p0.op).bind fun r3 => 
    if r3 then
      if (p0.name.toList == p1.toList) then
        some (NodeA.mk p0.op p2 p0.num p0.kids)
      else
        if (p0.name.toList == p2.toList) then
          some (NodeA.mk p0.op p1 p0.num p0.kids)
        else
          some p0
    else
      some p0) : Option NodeA).bind (fun v1_0 => 
  (makO 104 (v1_0.kids.length : Int) (NodeA.mk (0 : Int) (⟨#[]⟩ : ByteArray) (RatA.mk false [] []) [])).bind fun l8 => 
  ((iter (S := Int × (List NodeA)) (R := (List NodeA)) K (fun again (i10_0, i10_1) => 
    if (decide (i10_0 < (v1_0.kids.length : Int))) then
      (idx v1_0.kids i10_0).bind fun x15 => 
      (self41 (x15, p1, p2)).bind fun r17 => 
      (idx i10_1 i10_0).bind fun x19 => 
      again (IntKind.wrap .i64 (i10_0 + (1 : Int)), (i10_1.set (i10_0.toNat) r17))
    else
      some i10_1) ((0 : Int), l8)) : Option (List NodeA)).bind (fun e11_0 => 
  some (NodeA.mk v1_0.op v1_0.name v1_0.num e11_0)))
set_option maxHeartbeats 4000000 in
theorem r18_Exchange_step (K : Nat) (self41 : (NodeA × ByteArray × ByteArray) → Option NodeA) (hself41 : ∀ (q : NodeA × ByteArray × ByteArray) (r : NodeA), self41 q = some r → Cn Tryz.prog 41 [aggV q.1.enc, .d (.val (.string q.2.1)), .d (.val (.string q.2.2))] (aggV r.enc)) (p0 : NodeA) (p1 : ByteArray) (p2 : ByteArray) (r : NodeA) (h : r18_Exchange_body K self41 p0 p1 p2 = some r) : Cn Tryz.prog 41 [aggV p0.enc, .d (.val (.string p1)), .d (.val (.string p2))] (aggV r.enc) := by
  refine Cn.ofA mixed Tryz.func41 rfl Tryz.call41 Tryz.ntmps41 Tryz.results41 (by simp) (by simp only [go_sem, reduceEqDiff, reduceAdd, reduceSub, reduceMul, reduceLeDiff, reduceLT, Nat.reduceBEq, reduceIte]) fun hfit => ?_
  unfold r18_Exchange_body at h
  refine AW.kp [] [0, 1, 2] ?_
  refine AW.op mixed ?_
  refine AW.kp [0, 1] [1, 2, 3, 6] ?_
  refine AW.one ?_
  refine obindE h fun oJ2 h hJ2 => ?_
  refine AW.join (S := NodeA) (fun v1_0 => [(1, .d (.val (.string p1))), (2, .d (.val (.string p2))), (3, .ptr 0 6 0 0), (6, .ptr 1 6 0 0)]) (fun v1_0 => [some ⟨6, [[.d (.val (.int .i64 v1_0.op)), .d (.val (.string v1_0.name)), .d (.val (.bool v1_0.num.neg)), .d (slD u32V v1_0.num.num), .d (slD u32V v1_0.num.den), .d (slD NodeA.enc v1_0.kids)]]⟩, some ⟨6, [[.d (.val (.int .i64 (0 : Int))), .d (.val (.string (⟨#[]⟩ : ByteArray))), .d (.val (.bool false)), .d (.val (.slice none 0 0)), .d (.val (.slice none 0 0)), .d (.val (.slice none 0 0))]]⟩]) (fun x => x = oJ2) ?_ ?_
  · skip
    refine AW.op mixed ?_
    apply obindE h; intro r3 hx4 h
    have hc := nx (r18_variable_ok (h := hx4))
    refine callP hc ?_
    refine AW.kp [0, 1] [1, 2, 3, 6, 11] ?_
    refine AW.ts r3 (fun hb5 => ?_) (fun hb5 => ?_)
    · have h := ifT hb5 h
      refine AW.op mixed ?_
      refine AW.kp [0, 1] [1, 2, 3, 6, 13] ?_
      refine AW.block ?_
      refine AW.op mixed ?_
      refine AW.kp [0, 1] [1, 2, 3, 6, 13, 14] ?_
      refine AW.ts (p0.name.toList == p1.toList) (fun hb6 => ?_) (fun hb6 => ?_)
      · have h := ifT hb6 h
        refine AW.rg mixed ?_
        exact JoinQ.ar (NodeA.mk p0.op p2 p0.num p0.kids) [0, 1] (Option.some.inj h)
      have h := ifF hb6 h
      refine AW.op mixed ?_
      refine AW.kp [0, 1] [1, 2, 3, 6, 19] ?_
      refine AW.ts (p0.name.toList == p2.toList) (fun hb7 => ?_) (fun hb7 => ?_)
      · have h := ifT hb7 h
        refine AW.rg mixed ?_
        exact JoinQ.ar (NodeA.mk p0.op p1 p0.num p0.kids) [0, 1] (Option.some.inj h)
      have h := ifF hb7 h
      refine AW.sk ?_
      exact JoinQ.ar p0 [0, 1] (Option.some.inj h)
    have h := ifF hb5 h
    refine AW.sk ?_
    exact JoinQ.ar p0 [0, 1] (Option.some.inj h)
  rintro v1_0 rfl
  have h := hJ2
  try dsimp only [Out.fin] at h
  refine nz ?_
  refine AW.op mixed ?_
  apply obindE h; intro l8 hx9 h
  refine makG (f := NodeA.enc) hx9 (nz ?_) ?_
  · exact ⟨.same _, .same _, .same _, .nil, .nil, .nil, trivial⟩
  try simp only [go_sem, reduceEqDiff, reduceAdd, reduceSub, reduceMul, reduceLeDiff, reduceLT, Nat.reduceBEq, reduceIte]
  refine AW.cu [0, 1, 5] [(1, .d (.val (.string p1))), (2, .d (.val (.string p2))), (3, .ptr 0 6 0 0), (6, .ptr 1 6 0 0), (7, .msl 2 6 0 (l8.length))] [some ⟨6, [[.d (.val (.int .i64 v1_0.op)), .d (.val (.string v1_0.name)), .d (.val (.bool v1_0.num.neg)), .d (slD u32V v1_0.num.num), .d (slD u32V v1_0.num.den), .d (slD NodeA.enc v1_0.kids)]]⟩, some ⟨6, [[.d (.val (.int .i64 (0 : Int))), .d (.val (.string (⟨#[]⟩ : ByteArray))), .d (.val (.bool false)), .d (.val (.slice none 0 0)), .d (.val (.slice none 0 0)), .d (.val (.slice none 0 0))]]⟩, some ⟨6, (l8.map NodeA.enc).map (·.map .d)⟩] ?_
  refine AW.one ?_
  refine AW.op mixed ?_
  refine AW.cu [0, 1, 2] [(1, .d (.val (.string p1))), (2, .d (.val (.string p2))), (3, .ptr 0 6 0 0), (6, .ptr 1 6 0 0), (7, .msl 2 6 0 (l8.length)), (8, .d (.val (.int .i64 (0 : Int))))] [some ⟨6, [[.d (.val (.int .i64 v1_0.op)), .d (.val (.string v1_0.name)), .d (.val (.bool v1_0.num.neg)), .d (slD u32V v1_0.num.num), .d (slD u32V v1_0.num.den), .d (slD NodeA.enc v1_0.kids)]]⟩, some ⟨6, [[.d (.val (.int .i64 (0 : Int))), .d (.val (.string (⟨#[]⟩ : ByteArray))), .d (.val (.bool false)), .d (.val (.slice none 0 0)), .d (.val (.slice none 0 0)), .d (.val (.slice none 0 0))]]⟩, some ⟨6, (l8.map NodeA.enc).map (·.map .d)⟩] ?_
  refine obindE h fun oJ13 h hJ13 => ?_
  refine AW.join (S := (List NodeA)) (fun e11_0 => [(3, .ptr 0 6 0 0), (6, .ptr 1 6 0 0), (7, .msl 2 6 0 (e11_0.length))]) (fun e11_0 => [some ⟨6, [[.d (.val (.int .i64 v1_0.op)), .d (.val (.string v1_0.name)), .d (.val (.bool v1_0.num.neg)), .d (slD u32V v1_0.num.num), .d (slD u32V v1_0.num.den), .d (slD NodeA.enc v1_0.kids)]]⟩, some ⟨6, [[.d (.val (.int .i64 (0 : Int))), .d (.val (.string (⟨#[]⟩ : ByteArray))), .d (.val (.bool false)), .d (.val (.slice none 0 0)), .d (.val (.slice none 0 0)), .d (.val (.slice none 0 0))]]⟩, some ⟨6, (e11_0.map NodeA.enc).map (·.map .d)⟩]) (fun x => x = oJ13) ?_ ?_
  · refine AW.block ?_
    refine AW.iter (S := Int × (List NodeA)) (fun (i10_0, i10_1) => [(1, .d (.val (.string p1))), (2, .d (.val (.string p2))), (3, .ptr 0 6 0 0), (6, .ptr 1 6 0 0), (7, .msl 2 6 0 (i10_1.length)), (8, .d (.val (.int .i64 i10_0)))]) (fun (i10_0, i10_1) => [some ⟨6, [[.d (.val (.int .i64 v1_0.op)), .d (.val (.string v1_0.name)), .d (.val (.bool v1_0.num.neg)), .d (slD u32V v1_0.num.num), .d (slD u32V v1_0.num.den), .d (slD NodeA.enc v1_0.kids)]]⟩, some ⟨6, [[.d (.val (.int .i64 (0 : Int))), .d (.val (.string (⟨#[]⟩ : ByteArray))), .d (.val (.bool false)), .d (.val (.slice none 0 0)), .d (.val (.slice none 0 0)), .d (.val (.slice none 0 0))]]⟩, some ⟨6, (i10_1.map NodeA.enc).map (·.map .d)⟩]) [0, 1, 2] h (by simp only [go_sem, reduceEqDiff, reduceAdd, reduceSub, reduceMul, reduceLeDiff, reduceLT, Nat.reduceBEq, reduceIte]) ?_
    rintro again ⟨i10_0, i10_1⟩ h
    try dsimp only at h
    refine AW.one ?_
    refine AW.op mixed ?_
    refine AW.cu [0, 1, 2] [(1, .d (.val (.string p1))), (2, .d (.val (.string p2))), (3, .ptr 0 6 0 0), (6, .ptr 1 6 0 0), (7, .msl 2 6 0 (i10_1.length)), (8, .d (.val (.int .i64 i10_0))), (32, .d (.val (.bool (decide (i10_0 < (v1_0.kids.length : Int))))))] [some ⟨6, [[.d (.val (.int .i64 v1_0.op)), .d (.val (.string v1_0.name)), .d (.val (.bool v1_0.num.neg)), .d (slD u32V v1_0.num.num), .d (slD u32V v1_0.num.den), .d (slD NodeA.enc v1_0.kids)]]⟩, some ⟨6, [[.d (.val (.int .i64 (0 : Int))), .d (.val (.string (⟨#[]⟩ : ByteArray))), .d (.val (.bool false)), .d (.val (.slice none 0 0)), .d (.val (.slice none 0 0)), .d (.val (.slice none 0 0))]]⟩, some ⟨6, (i10_1.map NodeA.enc).map (·.map .d)⟩] ?_
    refine AW.ts (decide (i10_0 < (v1_0.kids.length : Int))) (fun hb14 => ?_) (fun hb14 => ?_)
    · have h := ifT hb14 h
      refine AW.sk ?_
      refine AW.cu [0, 1, 2] [(1, .d (.val (.string p1))), (2, .d (.val (.string p2))), (3, .ptr 0 6 0 0), (6, .ptr 1 6 0 0), (7, .msl 2 6 0 (i10_1.length)), (8, .d (.val (.int .i64 i10_0)))] [some ⟨6, [[.d (.val (.int .i64 v1_0.op)), .d (.val (.string v1_0.name)), .d (.val (.bool v1_0.num.neg)), .d (slD u32V v1_0.num.num), .d (slD u32V v1_0.num.den), .d (slD NodeA.enc v1_0.kids)]]⟩, some ⟨6, [[.d (.val (.int .i64 (0 : Int))), .d (.val (.string (⟨#[]⟩ : ByteArray))), .d (.val (.bool false)), .d (.val (.slice none 0 0)), .d (.val (.slice none 0 0)), .d (.val (.slice none 0 0))]]⟩, some ⟨6, (i10_1.map NodeA.enc).map (·.map .d)⟩] ?_
      refine AW.one ?_
      refine AW.block ?_
      refine AW.reg mixed (by kernel_rfl) ?_
      apply obindE h; intro x15 hx16 h
      try simp only [go_sem, reduceEqDiff, reduceAdd, reduceSub, reduceMul, reduceLeDiff, reduceLT, Nat.reduceBEq, reduceIte, (idx_some hx16).1, (idx_some hx16).2]
      apply obindE h; intro r17 hx18 h
      have hc := nx (hself41 _ _ hx18)
      refine callK_pure hc (by simp only [go_sem, reduceEqDiff, reduceAdd, reduceSub, reduceMul, reduceLeDiff, reduceLT, Nat.reduceBEq, reduceIte]) ?_
      try simp only [go_sem, reduceEqDiff, reduceAdd, reduceSub, reduceMul, reduceLeDiff, reduceLT, Nat.reduceBEq, reduceIte, (idx_some hx16).1, (idx_some hx16).2]
      apply obindE h; intro x19 hx20 h
      try simp only [go_sem, reduceEqDiff, reduceAdd, reduceSub, reduceMul, reduceLeDiff, reduceLT, Nat.reduceBEq, reduceIte, (idx_some hx16).1, (idx_some hx16).2, (idx_some hx20).1, idx_lt hx20, (idx_some hx20).2, List.length_set, (rows_set (l := i10_1) (f := NodeA.enc) (i := i10_0.toNat) (v' := r17) (row := [.d (.val (.int .i64 r17.op)), .d (.val (.string r17.name)), .d (.val (.bool r17.num.neg)), .d (slD u32V r17.num.num), .d (slD u32V r17.num.den), .d (slD NodeA.enc r17.kids)]) (by simp only [go_sem, reduceEqDiff, reduceAdd, reduceSub, reduceMul, reduceLeDiff, reduceLT, Nat.reduceBEq, reduceIte]))]
      refine AW.cut [0, 1, 2] [(1, .d (.val (.string p1))), (2, .d (.val (.string p2))), (3, .ptr 0 6 0 0), (6, .ptr 1 6 0 0), (7, .msl 2 6 0 ((i10_1.set (i10_0.toNat) r17).length)), (8, .d (.val (.int .i64 i10_0)))] [some ⟨6, [[.d (.val (.int .i64 v1_0.op)), .d (.val (.string v1_0.name)), .d (.val (.bool v1_0.num.neg)), .d (slD u32V v1_0.num.num), .d (slD u32V v1_0.num.den), .d (slD NodeA.enc v1_0.kids)]]⟩, some ⟨6, [[.d (.val (.int .i64 (0 : Int))), .d (.val (.string (⟨#[]⟩ : ByteArray))), .d (.val (.bool false)), .d (.val (.slice none 0 0)), .d (.val (.slice none 0 0)), .d (.val (.slice none 0 0))]]⟩, some ⟨6, ((i10_1.set (i10_0.toNat) r17).map NodeA.enc).map (·.map .d)⟩] (by simp only [go_sem, reduceEqDiff, reduceAdd, reduceSub, reduceMul, reduceLeDiff, reduceLT, Nat.reduceBEq, reduceIte, (idx_some hx16).1, (idx_some hx16).2, (idx_some hx20).1, idx_lt hx20, (idx_some hx20).2, List.length_set, (rows_set (l := i10_1) (f := NodeA.enc) (i := i10_0.toNat) (v' := r17) (row := [.d (.val (.int .i64 r17.op)), .d (.val (.string r17.name)), .d (.val (.bool r17.num.neg)), .d (slD u32V r17.num.num), .d (slD u32V r17.num.den), .d (slD NodeA.enc r17.kids)]) (by simp only [go_sem, reduceEqDiff, reduceAdd, reduceSub, reduceMul, reduceLeDiff, reduceLT, Nat.reduceBEq, reduceIte]))]) ?_
      refine AW.rg mixed ?_
      exact NextQ.ar (IntKind.wrap .i64 (i10_0 + (1 : Int)), (i10_1.set (i10_0.toNat) r17)) [0, 1, 2] h
    have h := ifF hb14 h
    refine AW.ex ?_
    exact JoinQ.ar i10_1 [0, 1, 2] (Option.some.inj h)
  rintro e11_0 rfl
  have h := hJ13
  try dsimp only [Out.fin] at h
  refine nz ?_
  refine AW.cu [0, 1, 2] [(3, .ptr 0 6 0 0), (6, .ptr 1 6 0 0), (7, .msl 2 6 0 (e11_0.length))] [some ⟨6, [[.d (.val (.int .i64 v1_0.op)), .d (.val (.string v1_0.name)), .d (.val (.bool v1_0.num.neg)), .d (slD u32V v1_0.num.num), .d (slD u32V v1_0.num.den), .d (slD NodeA.enc v1_0.kids)]]⟩, some ⟨6, [[.d (.val (.int .i64 (0 : Int))), .d (.val (.string (⟨#[]⟩ : ByteArray))), .d (.val (.bool false)), .d (.val (.slice none 0 0)), .d (.val (.slice none 0 0)), .d (.val (.slice none 0 0))]]⟩, some ⟨6, (e11_0.map NodeA.enc).map (·.map .d)⟩] ?_
  refine AW.op mixed ?_
  refine AW.cu [0, 2, 1] [(3, .ptr 0 6 0 0), (6, .ptr 2 6 0 0)] [some ⟨6, [[.d (.val (.int .i64 v1_0.op)), .d (.val (.string v1_0.name)), .d (.val (.bool v1_0.num.neg)), .d (slD u32V v1_0.num.num), .d (slD u32V v1_0.num.den), .msl 1 6 0 (e11_0.length)]]⟩, some ⟨6, (e11_0.map NodeA.enc).map (·.map .d)⟩, some ⟨6, [[.d (.val (.int .i64 (0 : Int))), .d (.val (.string (⟨#[]⟩ : ByteArray))), .d (.val (.bool false)), .d (.val (.slice none 0 0)), .d (.val (.slice none 0 0)), .d (.val (.slice none 0 0))]]⟩] ?_
  refine AW.op mixed ?_
  refine AW.ret ?_
  obtain rfl := Option.some.inj h
  refine nz ?_
  exact .aggL ⟨.same _, .same _, .same _, .same _, .same _, sealArr (by simp only [go_sem, reduceEqDiff, reduceAdd, reduceSub, reduceMul, reduceLeDiff, reduceLT, Nat.reduceBEq, reduceIte]), trivial⟩
def r18_Exchange (K : Nat) (p0 : NodeA) (p1 : ByteArray) (p2 : ByteArray) : Option NodeA := iter K (fun self q => r18_Exchange_body K self q.1 q.2.1 q.2.2) (p0, p1, p2)
theorem key_r18_Exchange {K : Nat} (k : Nat) : (∀ (q : NodeA × ByteArray × ByteArray) (r : NodeA), iter k (fun self q => r18_Exchange_body K self q.1 q.2.1 q.2.2) q = some r → Cn Tryz.prog 41 [aggV q.1.enc, .d (.val (.string q.2.1)), .d (.val (.string q.2.2))] (aggV r.enc)) := by
  induction k with
  | zero => exact fun q r h => by cases h
  | succ k ih => exact fun q r h => r18_Exchange_step K _ ih q.1 q.2.1 q.2.2 r h
theorem r18_Exchange_ok {K : Nat} {p0 : NodeA} {p1 : ByteArray} {p2 : ByteArray} {r : NodeA} (h : r18_Exchange K p0 p1 p2 = some r) : Cn Tryz.prog 41 [aggV p0.enc, .d (.val (.string p1)), .d (.val (.string p2))] (aggV r.enc) := (key_r18_Exchange K) (p0, p1, p2) r h
/-! ### isochrone/isochroneref18.binder -/
def r18_binder (K : Nat) (p0 : NodeA) : Option (ByteArray × NodeA × Bool) := ((
    ((
      if (p0.op == (33 : Int)) then
        some (p0.op == (33 : Int))
      else
        some (p0.op == (34 : Int))) : Option Bool).bind (fun v3_0 => 
    if v3_0 then
      (idx p0.kids (0 : Int)).bind fun x7 => 
      outM (
        some (p0.name, x7, true))
    else
      ((
        if (p0.op == (35 : Int)) then
          some (p0.op == (35 : Int))
        else
          some (p0.op == (36 : Int))) : Option Bool).bind (fun v9_0 => 
      if v9_0 then
        (idx p0.kids (0 : Int)).bind fun x13 => 
        ((
          if (x13.op == (50 : Int)) then
            some true
          else
            some (x13.op == (52 : Int))) : Option Bool).bind (fun v15_0 => 
        if v15_0 then
          (idx p0.kids (1 : Int)).bind fun x19 => 
          outM (
            some (x13.name, x19, true))
        else
          some (.go ()))
      else
        some (.go ())))) : Option (Out Unit _)).bind (Out.fin fun _ => 
  some ((⟨#[]⟩ : ByteArray), (NodeA.mk (0 : Int) (⟨#[]⟩ : ByteArray) (RatA.mk false [] []) []), false))
set_option maxHeartbeats 4000000 in
theorem r18_binder_ok {K : Nat} {p0 : NodeA} {r : ByteArray × NodeA × Bool} (h : r18_binder K p0 = some r) : Cn Tryz.prog 35 [aggV p0.enc] (.tup [.d (.val (.string r.1)), aggV r.2.1.enc, .d (.val (.bool r.2.2))]) := by
  refine Cn.oz Tryz.func35 Tryz.call35 Tryz.ntmps35 Tryz.results35 fun hfit => ?_
  unfold r18_binder at h
  refine AW.kr [] [0] ?_
  refine AW.ks [0, 2] [1, 3] ?_
  refine AW.jo h (fun _ => [(3, .ptr 0 6 0 0)]) (fun _ => [some ⟨6, [[vI (0 : Int), vS (⟨#[]⟩ : ByteArray), vB false, .d (.val (.slice none 0 0)), .d (.val (.slice none 0 0)), .d (.val (.slice none 0 0))]]⟩]) (fun oJ2 h hJ2 => ?_) fun ⟨⟩ h => ?_
  · refine AW.ro ?_
    refine AW.ks [0, 1] [1, 3, 7] ?_
    refine AW.block ?_
    refine AW.jn h (fun v3_0 => [(1, .ptr 0 6 0 0), (3, .ptr 1 6 0 0), (7, vI p0.op), (8, vB v3_0)]) (fun v3_0 => [vE p0.enc, some ⟨6, [[vI (0 : Int), vS (⟨#[]⟩ : ByteArray), vB false, .d (.val (.slice none 0 0)), .d (.val (.slice none 0 0)), .d (.val (.slice none 0 0))]]⟩]) (fun oJ4 h => ?_) fun v3_0 h => ?_
    · refine AW.ro ?_
      refine AW.ks [0, 1] [1, 3, 7, 8] ?_
      refine AW.tt h (fun hb5 h => ?_) fun hb5 h => ?_
      · refine AW.sk ?_
        exact ja [0, 1] h
      refine AW.rp ?_
      exact ja [0, 1] h
    refine AW.tt h (fun hb6 h => ?_) fun hb6 h => ?_
    · refine AW.ro ?_
      refine bx h fun x7 h0 h1 h => ?_
      refine AW.ret ?_
      have h := up h hJ2
      cases h; refine nz ?_; exact .same _
    refine AW.jn h (fun v9_0 => [(1, .ptr 0 6 0 0), (3, .ptr 1 6 0 0), (17, vB v9_0)]) (fun v9_0 => [vE p0.enc, some ⟨6, [[vI (0 : Int), vS (⟨#[]⟩ : ByteArray), vB false, .d (.val (.slice none 0 0)), .d (.val (.slice none 0 0)), .d (.val (.slice none 0 0))]]⟩]) (fun oJ10 h => ?_) fun v9_0 h => ?_
    · refine AW.ro ?_
      refine AW.ks [0, 1] [1, 3, 7, 17] ?_
      refine AW.tt h (fun hb11 h => ?_) fun hb11 h => ?_
      · refine AW.sk ?_
        exact ja [0, 1] h
      refine AW.rp ?_
      exact ja [0, 1] h
    refine AW.tk h (fun hb12 h => ?_) fun hb12 h => ?_
    · refine AW.ro ?_
      refine bx h fun x13 h0 h1 h => ?_
      refine AW.ks [0, 1, 6] [1, 3, 5] ?_
      refine AW.jn h (fun v15_0 => [(1, .ptr 0 6 0 0), (3, .ptr 1 6 0 0), (5, .ptr 2 6 0 0), (31, vB v15_0)]) (fun v15_0 => [vE p0.enc, some ⟨6, [[vI (0 : Int), vS (⟨#[]⟩ : ByteArray), vB false, .d (.val (.slice none 0 0)), .d (.val (.slice none 0 0)), .d (.val (.slice none 0 0))]]⟩, vE x13.enc]) (fun oJ16 h => ?_) fun v15_0 h => ?_
      · refine AW.rp ?_
        refine sK h (fun hb17 h => ?_) fun hb17 h => ?_
        · exact ja [0, 1, 2] h
        exact ja [0, 1, 2] h
      refine AW.tk h (fun hb18 h => ?_) fun hb18 h => ?_
      · refine AW.ro ?_
        refine bx h fun x19 h0 h1 h => ?_
        refine AW.ret ?_
        have h := up h hJ2
        cases h; refine nz ?_; exact .same _
      exact jo [1] h
    exact jo [1] h
  refine AW.ro ?_
  refine AW.ret ?_
  cases h; refine nz ?_; exact .tupL ⟨.same _, .aggL ⟨.same _, .same _, .same _, .nil, .nil, .nil, trivial⟩, .same _, trivial⟩
/-! ### isochrone/isochroneref18.check -/
def r18_check (K : Nat) (p0 : NodeA) : Option Int := (r08_Sort K p0.op).bind fun r1 => 
  ((
    ((
      if (r1 == (0 : Int)) then
        some true
      else
        some (r1 == (4 : Int))) : Option Bool).bind (fun v5_0 => 
    if v5_0 then
      outM (
        some (80 : Int))
    else
      some (.go ()))) : Option (Out Unit _)).bind (Out.fin fun _ => 
  (r08_Check K p0 r1).bind fun r9 => 
  some r9)
set_option maxHeartbeats 4000000 in
theorem r18_check_ok {K : Nat} {p0 : NodeA} {r : Int} (h : r18_check K p0 = some r) : Cn Tryz.prog 33 [aggV p0.enc] (.d (.val (.int .i64 r))) := by
  refine Cn.oz Tryz.func33 Tryz.call33 Tryz.ntmps33 Tryz.results33 fun hfit => ?_
  unfold r18_check at h
  refine AW.kr [] [0] ?_
  refine AW.kr [0] [1] ?_
  refine cm h r08_Sort_ok fun r1 hx2 h => ?_
  refine AW.ks [0] [1, 3] ?_
  refine AW.jo h (fun _ => [(1, .ptr 0 6 0 0), (3, vI r1)]) (fun _ => [vE p0.enc]) (fun oJ4 h hJ4 => ?_) fun ⟨⟩ h => ?_
  · refine AW.jn h (fun v5_0 => [(1, .ptr 0 6 0 0), (3, vI r1), (12, vB v5_0)]) (fun v5_0 => [vE p0.enc]) (fun oJ6 h => ?_) fun v5_0 h => ?_
    · refine AW.rp ?_
      refine sK h (fun hb7 h => ?_) fun hb7 h => ?_
      · exact ja [0] h
      exact ja [0] h
    refine AW.tk h (fun hb8 h => ?_) fun hb8 h => ?_
    · refine AW.ro ?_
      refine AW.ret ?_
      have h := up h hJ4
      cases h; refine nz ?_; exact .same _
    exact jo [0] h
  refine AW.ro ?_
  refine cm h r08_Check_ok fun r9 hx10 h => ?_
  refine AW.ret ?_
  cases h; refine nz ?_; exact .same _
/-! ### isochrone/isochroneref18.rebound -/
def r18_rebound (K : Nat) (p0 : NodeA) (p1 : ByteArray) (p2 : NodeA) : Option NodeA := ((
    ((
      if (p0.op == (33 : Int)) then
        some true
      else
        some (p0.op == (34 : Int))) : Option Bool).bind (fun v3_0 => 
    if v3_0 then
      outM (
        some (NodeA.mk p0.op p1 p0.num [p2]))
    else
      some (.go ()))) : Option (Out Unit _)).bind (Out.fin fun _ => 
  (idx p0.kids (0 : Int)).bind fun x7 => 
  some (NodeA.mk p0.op p0.name p0.num [(NodeA.mk x7.op p1 x7.num x7.kids), p2]))
set_option maxHeartbeats 4000000 in
theorem r18_rebound_ok {K : Nat} {p0 : NodeA} {p1 : ByteArray} {p2 : NodeA} {r : NodeA} (h : r18_rebound K p0 p1 p2 = some r) : Cn Tryz.prog 40 [aggV p0.enc, .d (.val (.string p1)), aggV p2.enc] (aggV r.enc) := by
  refine Cn.oz Tryz.func40 Tryz.call40 Tryz.ntmps40 Tryz.results40 fun hfit => ?_
  unfold r18_rebound at h
  refine AW.kr [] [0, 1, 2] ?_
  refine AW.ks [0, 1, 2] [1, 3, 5, 6] ?_
  refine AW.jo h (fun _ => [(1, vS p1), (3, .ptr 0 6 0 0), (5, .ptr 1 6 0 0), (6, .ptr 2 6 0 0)]) (fun _ => [vE p0.enc, vE p2.enc, some ⟨6, [[vI (0 : Int), vS (⟨#[]⟩ : ByteArray), vB false, .d (.val (.slice none 0 0)), .d (.val (.slice none 0 0)), .d (.val (.slice none 0 0))]]⟩]) (fun oJ2 h hJ2 => ?_) fun ⟨⟩ h => ?_
  · refine AW.jn h (fun v3_0 => [(1, vS p1), (3, .ptr 0 6 0 0), (5, .ptr 1 6 0 0), (6, .ptr 2 6 0 0), (15, vB v3_0)]) (fun v3_0 => [vE p0.enc, vE p2.enc, some ⟨6, [[vI (0 : Int), vS (⟨#[]⟩ : ByteArray), vB false, .d (.val (.slice none 0 0)), .d (.val (.slice none 0 0)), .d (.val (.slice none 0 0))]]⟩]) (fun oJ4 h => ?_) fun v3_0 h => ?_
    · refine AW.rp ?_
      refine sK h (fun hb5 h => ?_) fun hb5 h => ?_
      · exact ja [0, 1, 2] h
      exact ja [0, 1, 2] h
    refine AW.tk h (fun hb6 h => ?_) fun hb6 h => ?_
    · refine AW.ro ?_
      refine AW.kr [0, 1, 2] [3, 5, 6] ?_
      refine AW.kr [0, 2] [3, 6] ?_
      refine AW.ret ?_
      have h := up h hJ2
      cases h; refine nz ?_; exact .aggL ⟨.same _, .same _, .same _, .same _, .same _, .d (.dn (.rows ⟨(nilL_eq (by simp only [go_sem, reduceEqDiff, reduceAdd, reduceSub, reduceMul, reduceLeDiff, reduceLT, Nat.reduceBEq, reduceIte])), trivial⟩)), trivial⟩
    exact jo [0, 1, 2] h
  refine AW.ro ?_
  refine bx h fun x7 h0 h1 h => ?_
  refine AW.kr [0, 1, 2, 7] [1, 3, 5, 6, 7] ?_
  refine AW.kr [0, 1, 2, 3] [3, 5, 6, 7] ?_
  refine AW.kr [0, 2] [3, 6] ?_
  refine AW.ret ?_
  cases h; refine nz ?_; exact .aggL ⟨.same _, .same _, .same _, .same _, .same _, .d (.dn (.rows ⟨(nilL_eq (by simp only [go_sem, reduceEqDiff, reduceAdd, reduceSub, reduceMul, reduceLeDiff, reduceLT, Nat.reduceBEq, reduceIte])), (nilL_eq (by simp only [go_sem, reduceEqDiff, reduceAdd, reduceSub, reduceMul, reduceLeDiff, reduceLT, Nat.reduceBEq, reduceIte])), trivial⟩)), trivial⟩
/-! ### isochrone/isochroneref10.Occurs -/
def r10_Occurs_body (K : Nat) (self78 : (NodeA × Int) → Option Bool) (p0 : NodeA) (p1 : Int) : Option Bool := if (p0.op == p1) then
    some true
  else
    ((iter (S := Int) (R := Out Unit _) K (fun again i2_0 => 
      if (decide (i2_0 < (p0.kids.length : Int))) then
        (idx p0.kids i2_0).bind fun x7 => 
        (self78 (x7, p1)).bind fun r9 => 
        if r9 then
          outM (
            some true)
        else
          again (IntKind.wrap .i64 (i2_0 + (1 : Int)))
      else
        some (.go ())) (0 : Int)) : Option (Out Unit _)).bind (Out.fin fun _ => 
    some false)
set_option maxHeartbeats 4000000 in
theorem r10_Occurs_step (K : Nat) (self78 : (NodeA × Int) → Option Bool) (hself78 : ∀ (q : NodeA × Int) (r : Bool), self78 q = some r → Cn Tryz.prog 78 [aggV q.1.enc, .d (.val (.int .i64 q.2))] (.d (.val (.bool r)))) (p0 : NodeA) (p1 : Int) (r : Bool) (h : r10_Occurs_body K self78 p0 p1 = some r) : Cn Tryz.prog 78 [aggV p0.enc, .d (.val (.int .i64 p1))] (.d (.val (.bool r))) := by
  refine Cn.oz Tryz.func78 Tryz.call78 Tryz.ntmps78 Tryz.results78 fun hfit => ?_
  unfold r10_Occurs_body at h
  refine AW.kr [] [0, 1] ?_
  refine AW.ks [0] [1, 2] ?_
  refine AW.one ?_
  refine AW.ro ?_
  refine AW.ks [0] [1, 2, 9] ?_
  refine AW.tk h (fun hb1 h => ?_) fun hb1 h => ?_
  · refine AW.ro ?_
    refine AW.ret ?_
    cases h; refine nz ?_; exact .same _
  refine AW.ks [0] [1, 2] ?_
  refine AW.one ?_
  refine AW.ro ?_
  refine AW.ks [0] [1, 2, 5] ?_
  refine AW.lp h (fun _ => []) (fun _ => []) (fun i2_0 => [(1, vI p1), (2, .ptr 0 6 0 0), (5, vI i2_0)]) (fun i2_0 => [vE p0.enc]) [0] (fun oJ5 hJ5 again i2_0 h => ?_) fun ⟨⟩ h => ?_
  · refine AW.one ?_
    refine AW.ro ?_
    refine AW.ks [0] [1, 2, 5, 14] ?_
    refine AW.tt h (fun hb6 h => ?_) fun hb6 h => ?_
    · refine AW.sk ?_
      refine AW.ks [0] [1, 2, 5] ?_
      refine AW.one ?_
      refine AW.block ?_
      refine AW.ro ?_
      refine bx h fun x7 h0 h1 h => ?_
      refine cm h (hself78 _ _) fun r9 hx10 h => ?_
      refine AW.ks [0] [1, 2, 5, 23] ?_
      refine AW.tk h (fun hb11 h => ?_) fun hb11 h => ?_
      · refine AW.ro ?_
        refine AW.ret ?_
        have h := up h hJ5
        cases h; refine nz ?_; exact .same _
      refine AW.ks [0] [1, 2, 5] ?_
      refine AW.rp ?_
      exact na [0] h
    refine AW.ex ?_
    exact jo [] h
  refine AW.kr [] [] ?_
  refine AW.ret ?_
  cases h; refine nz ?_; exact .same _
def r10_Occurs (K : Nat) (p0 : NodeA) (p1 : Int) : Option Bool := iter K (fun self q => r10_Occurs_body K self q.1 q.2) (p0, p1)
theorem key_r10_Occurs {K : Nat} (k : Nat) : (∀ (q : NodeA × Int) (r : Bool), iter k (fun self q => r10_Occurs_body K self q.1 q.2) q = some r → Cn Tryz.prog 78 [aggV q.1.enc, .d (.val (.int .i64 q.2))] (.d (.val (.bool r)))) := by
  induction k with
  | zero => exact fun q r h => by cases h
  | succ k ih => exact fun q r h => r10_Occurs_step K _ ih q.1 q.2 r h
theorem r10_Occurs_ok {K : Nat} {p0 : NodeA} {p1 : Int} {r : Bool} (h : r10_Occurs K p0 p1 = some r) : Cn Tryz.prog 78 [aggV p0.enc, .d (.val (.int .i64 p1))] (.d (.val (.bool r))) := (key_r10_Occurs K) (p0, p1) r h
/-! ### isochrone/isochroneref18.renamable -/
def r18_renamable (K : Nat) (p0 : NodeA) : Option Bool := (r10_Occurs K p0 (11 : Int)).bind fun r1 => 
  if (!r1) then
    (r10_Occurs K p0 (38 : Int)).bind fun r4 => 
    if (!r4) then
      (r10_Occurs K p0 (61 : Int)).bind fun r7 => 
      if (!r7) then
        (r10_Occurs K p0 (62 : Int)).bind fun r10 => 
        if (!r10) then
          (r10_Occurs K p0 (56 : Int)).bind fun r13 => 
          some (!r13)
        else
          some false
      else
        some false
    else
      some false
  else
    some false
set_option maxHeartbeats 4000000 in
theorem r18_renamable_ok {K : Nat} {p0 : NodeA} {r : Bool} (h : r18_renamable K p0 = some r) : Cn Tryz.prog 37 [aggV p0.enc] (.d (.val (.bool r))) := by
  refine Cn.oz Tryz.func37 Tryz.call37 Tryz.ntmps37 Tryz.results37 fun hfit => ?_
  unfold r18_renamable at h
  refine AW.kr [] [0] ?_
  refine AW.kr [0] [1] ?_
  refine cm h r10_Occurs_ok fun r1 hx2 h => ?_
  refine sK h (fun hb3 h => ?_) fun hb3 h => ?_
  · refine cm h r10_Occurs_ok fun r4 hx5 h => ?_
    refine sK h (fun hb6 h => ?_) fun hb6 h => ?_
    · refine cm h r10_Occurs_ok fun r7 hx8 h => ?_
      refine sK h (fun hb9 h => ?_) fun hb9 h => ?_
      · refine cm h r10_Occurs_ok fun r10 hx11 h => ?_
        refine sK h (fun hb12 h => ?_) fun hb12 h => ?_
        · refine cm h r10_Occurs_ok fun r13 hx14 h => ?_
          refine AW.ret ?_
          cases h; refine nz ?_; exact .same _
        refine AW.ret ?_
        cases h; refine nz ?_; exact .same _
      refine AW.ret ?_
      cases h; refine nz ?_; exact .same _
    refine AW.ret ?_
    cases h; refine nz ?_; exact .same _
  refine AW.ret ?_
  cases h; refine nz ?_; exact .same _
/-! ### isochrone/isochroneref10.anywhere -/
def r10_anywhere_body (K : Nat) (self88 : NodeA → Option Api_NamesA) (p0 : NodeA) : Option Api_NamesA := ((
    ((
      if (p0.op == (50 : Int)) then
        some (p0.op == (50 : Int))
      else
        if (p0.op == (52 : Int)) then
          some (p0.op == (52 : Int))
        else
          if (p0.op == (33 : Int)) then
            some (p0.op == (33 : Int))
          else
            some (p0.op == (34 : Int))) : Option Bool).bind (fun v3_0 => 
    if v3_0 then
      (r10_only K p0.name).bind fun r9 => 
      some (r9.all, r9.list)
    else
      if (p0.op == (51 : Int)) then
        (catO p0.name (⟨#[39]⟩ : ByteArray)).bind fun s12 => 
        (r10_only K s12).bind fun r14 => 
        some (r14.all, r14.list)
      else
        if (p0.op == (55 : Int)) then
          (r10_only K p0.name).bind fun r17 => 
          (catO p0.name (⟨#[39]⟩ : ByteArray)).bind fun s19 => 
          (r10_only K s19).bind fun r21 => 
          (r10_join K r17 r21).bind fun r23 => 
          some (r23.all, r23.list)
        else
          ((
            if (p0.op == (56 : Int)) then
              some (p0.op == (56 : Int))
            else
              if (p0.op == (61 : Int)) then
                some (p0.op == (61 : Int))
              else
                some (p0.op == (62 : Int))) : Option Bool).bind (fun v25_0 => 
          if v25_0 then
            some (true, [])
          else
            some (false, [])))) : Option (Bool × (List ByteArray))).bind (fun (v1_0, v1_1) => 
  ((iter (S := Int × Api_NamesA) (R := Api_NamesA) K (fun again (i30_0, i30_1) => 
    if (decide (i30_0 < (p0.kids.length : Int))) then
      (idx p0.kids i30_0).bind fun x35 => 
      (self88 (x35)).bind fun r37 => 
      (r10_join K i30_1 r37).bind fun r39 => 
      again (IntKind.wrap .i64 (i30_0 + (1 : Int)), r39)
    else
      some i30_1) ((0 : Int), (Api_NamesA.mk v1_0 v1_1))) : Option Api_NamesA).bind (fun e31_0 => 
  some e31_0))
set_option maxHeartbeats 4000000 in
theorem r10_anywhere_step (K : Nat) (self88 : NodeA → Option Api_NamesA) (hself88 : ∀ (q : NodeA) (r : Api_NamesA), self88 q = some r → Cn Tryz.prog 88 [aggV q.enc] (aggV r.enc)) (p0 : NodeA) (r : Api_NamesA) (h : r10_anywhere_body K self88 p0 = some r) : Cn Tryz.prog 88 [aggV p0.enc] (aggV r.enc) := by
  refine Cn.oz Tryz.func88 Tryz.call88 Tryz.ntmps88 Tryz.results88 fun hfit => ?_
  unfold r10_anywhere_body at h
  refine AW.kr [] [0] ?_
  refine AW.kr [0, 1] [1, 2] ?_
  refine AW.ks [0, 1, 2] [1, 2, 3] ?_
  refine AW.jn h (fun (v1_0, v1_1) => [(1, .ptr 0 6 0 0), (2, .ptr 1 2 0 0), (3, .ptr 2 2 0 0)]) (fun (v1_0, v1_1) => [vE p0.enc, some ⟨2, [[vB false, .d (.val (.slice none 0 0))]]⟩, some ⟨2, [[vB v1_0, vL strV v1_1]]⟩]) (fun oJ2 h => ?_) fun ⟨v1_0, v1_1⟩ h => ?_
  · refine AW.ro ?_
    refine AW.ks [0, 1, 2] [1, 2, 3, 6] ?_
    refine AW.block ?_
    refine AW.jn h (fun v3_0 => [(1, .ptr 0 6 0 0), (2, .ptr 1 2 0 0), (3, .ptr 2 2 0 0), (6, vI p0.op), (7, vB v3_0)]) (fun v3_0 => [vE p0.enc, some ⟨2, [[vB false, .d (.val (.slice none 0 0))]]⟩, some ⟨2, [[vB false, .d (.val (.slice none 0 0))]]⟩]) (fun oJ4 h => ?_) fun v3_0 h => ?_
    · refine AW.ro ?_
      refine AW.ks [0, 1, 2] [1, 2, 3, 6, 7] ?_
      refine AW.tt h (fun hb5 h => ?_) fun hb5 h => ?_
      · refine AW.sk ?_
        exact ja [0, 1, 2] h
      refine AW.ro ?_
      refine AW.ks [0, 1, 2] [1, 2, 3, 6, 7] ?_
      refine AW.tt h (fun hb6 h => ?_) fun hb6 h => ?_
      · refine AW.sk ?_
        exact ja [0, 1, 2] h
      refine AW.ro ?_
      refine AW.ks [0, 1, 2] [1, 2, 3, 6, 7] ?_
      refine AW.tt h (fun hb7 h => ?_) fun hb7 h => ?_
      · refine AW.sk ?_
        exact ja [0, 1, 2] h
      refine AW.rp ?_
      exact ja [0, 1, 2] h
    refine AW.tt h (fun hb8 h => ?_) fun hb8 h => ?_
    · refine AW.rp ?_
      refine cm h r10_only_ok fun r9 hx10 h => ?_
      exact ja [0, 1, 2] h
    refine AW.ro ?_
    refine AW.ks [0, 1, 2] [1, 2, 3, 6, 15] ?_
    refine AW.tt h (fun hb11 h => ?_) fun hb11 h => ?_
    · refine AW.rp ?_
      apply bE h; intro s12 hx13 h; have hx13 := bt hx13; refine ns ?_
      refine cm h r10_only_ok fun r14 hx15 h => ?_
      exact ja [0, 1, 2] h
    refine AW.ro ?_
    refine AW.ks [0, 1, 2] [1, 2, 3, 6, 21] ?_
    refine AW.tt h (fun hb16 h => ?_) fun hb16 h => ?_
    · refine AW.rp ?_
      refine pm h r10_only_ok fun r17 hx18 h => ?_
      apply bE h; intro s19 hx20 h; have hx20 := bt hx20; refine ns ?_
      refine pm h r10_only_ok fun r21 hx22 h => ?_
      refine pm h r10_join_ok fun r23 hx24 h => ?_
      exact ja [0, 1, 2] h
    refine AW.jn h (fun v25_0 => [(1, .ptr 0 6 0 0), (2, .ptr 1 2 0 0), (3, .ptr 2 2 0 0), (31, vB v25_0)]) (fun v25_0 => [vE p0.enc, some ⟨2, [[vB false, .d (.val (.slice none 0 0))]]⟩, some ⟨2, [[vB false, .d (.val (.slice none 0 0))]]⟩]) (fun oJ26 h => ?_) fun v25_0 h => ?_
    · refine AW.ro ?_
      refine AW.ks [0, 1, 2] [1, 2, 3, 6, 31] ?_
      refine AW.tt h (fun hb27 h => ?_) fun hb27 h => ?_
      · refine AW.sk ?_
        exact ja [0, 1, 2] h
      refine AW.ro ?_
      refine AW.ks [0, 1, 2] [1, 2, 3, 6, 31] ?_
      refine AW.tt h (fun hb28 h => ?_) fun hb28 h => ?_
      · refine AW.sk ?_
        exact ja [0, 1, 2] h
      refine AW.rp ?_
      exact ja [0, 1, 2] h
    refine AW.tk h (fun hb29 h => ?_) fun hb29 h => ?_
    · refine AW.rp ?_
      refine JoinQ.mkS (true, []) [0, 1, 2] [] [] [(2, ⟨2, [[.d (.val (.bool true)), .d (slD strV [])]]⟩)] (Option.some.inj h) (by simp only [go_sem, reduceEqDiff, reduceAdd, reduceSub, reduceMul, reduceLeDiff, reduceLT, Nat.reduceBEq, reduceIte, sealL_cons, sealL_nil]) (by simp only [go_sem, reduceEqDiff, reduceAdd, reduceSub, reduceMul, reduceLeDiff, reduceLT, Nat.reduceBEq, reduceIte, sealH_cons, sealH_nil]; exact ⟨⟨.same _, .nil, trivial⟩, trivial⟩) (by simp only [go_sem, reduceEqDiff, reduceAdd, reduceSub, reduceMul, reduceLeDiff, reduceLT, Nat.reduceBEq, reduceIte])
    refine JoinQ.mkS (false, []) [0, 1, 2] [] [] [(2, ⟨2, [[.d (.val (.bool false)), .d (slD strV [])]]⟩)] (Option.some.inj h) (by simp only [go_sem, reduceEqDiff, reduceAdd, reduceSub, reduceMul, reduceLeDiff, reduceLT, Nat.reduceBEq, reduceIte, sealL_cons, sealL_nil]) (by simp only [go_sem, reduceEqDiff, reduceAdd, reduceSub, reduceMul, reduceLeDiff, reduceLT, Nat.reduceBEq, reduceIte, sealH_cons, sealH_nil]; exact ⟨⟨.same _, .nil, trivial⟩, trivial⟩) (by simp only [go_sem, reduceEqDiff, reduceAdd, reduceSub, reduceMul, reduceLeDiff, reduceLT, Nat.reduceBEq, reduceIte])
  try dsimp only at h
  refine AW.one ?_
  refine AW.ro ?_
  refine AW.ks [0, 1, 2] [1, 2, 3, 4] ?_
  refine AW.lm h (fun e31_0 => [(2, .ptr 0 2 0 0), (3, .ptr 1 2 0 0)]) (fun e31_0 => [some ⟨2, [[vB false, .d (.val (.slice none 0 0))]]⟩, vE e31_0.enc]) (fun (i30_0, i30_1) => [(1, .ptr 0 6 0 0), (2, .ptr 1 2 0 0), (3, .ptr 2 2 0 0), (4, vI i30_0)]) (fun (i30_0, i30_1) => [vE p0.enc, some ⟨2, [[vB false, .d (.val (.slice none 0 0))]]⟩, vE i30_1.enc]) [0, 1, 2] (fun oJ33 again ⟨i30_0, i30_1⟩ h => ?_) fun e31_0 h => ?_
  · try dsimp only at h
    refine AW.one ?_
    refine AW.ro ?_
    refine AW.ks [0, 1, 2] [1, 2, 3, 4, 40] ?_
    refine AW.tt h (fun hb34 h => ?_) fun hb34 h => ?_
    · refine AW.sk ?_
      refine AW.ks [0, 1, 2] [1, 2, 3, 4] ?_
      refine AW.one ?_
      refine AW.block ?_
      refine AW.rp ?_
      refine bx h fun x35 h0 h1 h => ?_
      refine pm h (hself88 _ _) fun r37 hx38 h => ?_
      refine pm h r10_join_ok fun r39 hx40 h => ?_
      refine AW.ks [0, 1, 2] [1, 2, 3, 4] ?_
      refine AW.rp ?_
      exact na [0, 1, 2] h
    refine AW.ex ?_
    exact ja [1, 2] h
  refine AW.kr [0, 1] [2, 3] ?_
  refine AW.ret ?_
  cases h; refine nz ?_; exact .same _
def r10_anywhere (K : Nat) (p0 : NodeA) : Option Api_NamesA := iter K (fun self q => r10_anywhere_body K self q) p0
theorem key_r10_anywhere {K : Nat} (k : Nat) : (∀ (q : NodeA) (r : Api_NamesA), iter k (fun self q => r10_anywhere_body K self q) q = some r → Cn Tryz.prog 88 [aggV q.enc] (aggV r.enc)) := by
  induction k with
  | zero => exact fun q r h => by cases h
  | succ k ih => exact fun q r h => r10_anywhere_step K _ ih q r h
theorem r10_anywhere_ok {K : Nat} {p0 : NodeA} {r : Api_NamesA} (h : r10_anywhere K p0 = some r) : Cn Tryz.prog 88 [aggV p0.enc] (aggV r.enc) := (key_r10_anywhere K) p0 r h
/-! ### isochrone/isochroneref10.bound -/
def r10_bound_body (K : Nat) (self46 : NodeA → Option Api_NamesA) (p0 : NodeA) : Option Api_NamesA := (r08_Sort K p0.op).bind fun r1 => 
  if (r1 == (2 : Int)) then
    (r10_anywhere K p0).bind fun r4 => 
    some r4
  else
    ((
      ((
        if (p0.op == (50 : Int)) then
          some (p0.op == (50 : Int))
        else
          some (p0.op == (52 : Int))) : Option Bool).bind (fun v8_0 => 
      if v8_0 then
        (r10_only K p0.name).bind fun r12 => 
        some (.go (r12.all, r12.list))
      else
        if (p0.op == (51 : Int)) then
          (catO p0.name (⟨#[39]⟩ : ByteArray)).bind fun s15 => 
          (r10_only K s15).bind fun r17 => 
          some (.go (r17.all, r17.list))
        else
          if (p0.op == (55 : Int)) then
            (r10_only K p0.name).bind fun r20 => 
            (catO p0.name (⟨#[39]⟩ : ByteArray)).bind fun s22 => 
            (r10_only K s22).bind fun r24 => 
            (r10_join K r20 r24).bind fun r26 => 
            outM (
              some r26)
          else
            ((
              if (p0.op == (56 : Int)) then
                some (p0.op == (56 : Int))
              else
                if (p0.op == (61 : Int)) then
                  some (p0.op == (61 : Int))
                else
                  some (p0.op == (62 : Int))) : Option Bool).bind (fun v28_0 => 
            if v28_0 then
              outM (
                some (Api_NamesA.mk true []))
            else
              if (p0.op == (53 : Int)) then
                outM (
                  some (Api_NamesA.mk false []))
              else
                if (p0.op == (54 : Int)) then
                  ((iter (S := Int × Api_NamesA) (R := Api_NamesA) K (fun again (i39_0, i39_1) => 
                    if (decide (i39_0 < (IntKind.wrap .i64 ((p0.kids.length : Int) - (1 : Int))))) then
                      (idx p0.kids i39_0).bind fun x44 => 
                      (self46 (x44)).bind fun r46 => 
                      (r10_join K i39_1 r46).bind fun r48 => 
                      again (IntKind.wrap .i64 (i39_0 + (1 : Int)), r48)
                    else
                      some i39_1) ((0 : Int), (Api_NamesA.mk false []))) : Option Api_NamesA).bind (fun e40_0 => 
                  outM (
                    some e40_0))
                else
                  some (.go (false, []))))) : Option (Out (Bool × (List ByteArray)) _)).bind (Out.fin fun (v6_0, v6_1) => 
    ((iter (S := Int × Api_NamesA) (R := Api_NamesA) K (fun again (i50_0, i50_1) => 
      if (decide (i50_0 < (p0.kids.length : Int))) then
        (idx p0.kids i50_0).bind fun x55 => 
        (self46 (x55)).bind fun r57 => 
        (r10_join K i50_1 r57).bind fun r59 => 
        again (IntKind.wrap .i64 (i50_0 + (1 : Int)), r59)
      else
        some i50_1) ((0 : Int), (Api_NamesA.mk v6_0 v6_1))) : Option Api_NamesA).bind (fun e51_0 => 
    some e51_0))
set_option maxHeartbeats 4000000 in
theorem r10_bound_step (K : Nat) (self46 : NodeA → Option Api_NamesA) (hself46 : ∀ (q : NodeA) (r : Api_NamesA), self46 q = some r → Cn Tryz.prog 46 [aggV q.enc] (aggV r.enc)) (p0 : NodeA) (r : Api_NamesA) (h : r10_bound_body K self46 p0 = some r) : Cn Tryz.prog 46 [aggV p0.enc] (aggV r.enc) := by
  refine Cn.oz Tryz.func46 Tryz.call46 Tryz.ntmps46 Tryz.results46 fun hfit => ?_
  unfold r10_bound_body at h
  refine AW.kr [] [0] ?_
  refine AW.kr [0, 1] [1, 2] ?_
  refine AW.ks [0, 1, 2] [1, 2, 3] ?_
  refine AW.one ?_
  refine AW.ro ?_
  refine cm h r08_Sort_ok fun r1 hx2 h => ?_
  refine AW.ks [0, 1, 2] [1, 2, 3, 9] ?_
  refine AW.tk h (fun hb3 h => ?_) fun hb3 h => ?_
  · refine AW.ro ?_
    refine cm h r10_anywhere_ok fun r4 hx5 h => ?_
    refine AW.ret ?_
    cases h; refine nz ?_; exact .same _
  refine AW.ks [0, 1, 2] [1, 2, 3] ?_
  refine AW.jo h (fun (v6_0, v6_1) => [(1, .ptr 0 6 0 0), (2, .ptr 1 2 0 0), (3, .ptr 2 2 0 0)]) (fun (v6_0, v6_1) => [vE p0.enc, some ⟨2, [[vB false, .d (.val (.slice none 0 0))]]⟩, some ⟨2, [[vB v6_0, vL strV v6_1]]⟩]) (fun oJ7 h hJ7 => ?_) fun ⟨v6_0, v6_1⟩ h => ?_
  · refine AW.ro ?_
    refine AW.ks [0, 1, 2] [1, 2, 3, 13] ?_
    refine AW.block ?_
    refine AW.jn h (fun v8_0 => [(1, .ptr 0 6 0 0), (2, .ptr 1 2 0 0), (3, .ptr 2 2 0 0), (13, vI p0.op), (14, vB v8_0)]) (fun v8_0 => [vE p0.enc, some ⟨2, [[vB false, .d (.val (.slice none 0 0))]]⟩, some ⟨2, [[vB false, .d (.val (.slice none 0 0))]]⟩]) (fun oJ9 h => ?_) fun v8_0 h => ?_
    · refine AW.ro ?_
      refine AW.ks [0, 1, 2] [1, 2, 3, 13, 14] ?_
      refine AW.tt h (fun hb10 h => ?_) fun hb10 h => ?_
      · refine AW.sk ?_
        exact ja [0, 1, 2] h
      refine AW.rp ?_
      exact ja [0, 1, 2] h
    refine AW.tt h (fun hb11 h => ?_) fun hb11 h => ?_
    · refine AW.rp ?_
      refine cm h r10_only_ok fun r12 hx13 h => ?_
      exact jo [0, 1, 2] h
    refine AW.ro ?_
    refine AW.ks [0, 1, 2] [1, 2, 3, 13, 20] ?_
    refine AW.tt h (fun hb14 h => ?_) fun hb14 h => ?_
    · refine AW.rp ?_
      apply bE h; intro s15 hx16 h; have hx16 := bt hx16; refine ns ?_
      refine cm h r10_only_ok fun r17 hx18 h => ?_
      exact jo [0, 1, 2] h
    refine AW.ro ?_
    refine AW.ks [0, 1, 2] [1, 2, 3, 13, 26] ?_
    refine AW.tt h (fun hb19 h => ?_) fun hb19 h => ?_
    · refine AW.ro ?_
      refine pm h r10_only_ok fun r20 hx21 h => ?_
      apply bE h; intro s22 hx23 h; have hx23 := bt hx23; refine ns ?_
      refine pm h r10_only_ok fun r24 hx25 h => ?_
      refine pm h r10_join_ok fun r26 hx27 h => ?_
      refine AW.ret ?_
      have h := up h hJ7
      cases h; refine nz ?_; exact .same _
    refine AW.jn h (fun v28_0 => [(1, .ptr 0 6 0 0), (2, .ptr 1 2 0 0), (3, .ptr 2 2 0 0), (13, vI p0.op), (36, vB v28_0)]) (fun v28_0 => [vE p0.enc, some ⟨2, [[vB false, .d (.val (.slice none 0 0))]]⟩, some ⟨2, [[vB false, .d (.val (.slice none 0 0))]]⟩]) (fun oJ29 h => ?_) fun v28_0 h => ?_
    · refine AW.ro ?_
      refine AW.ks [0, 1, 2] [1, 2, 3, 13, 36] ?_
      refine AW.tt h (fun hb30 h => ?_) fun hb30 h => ?_
      · refine AW.sk ?_
        exact ja [0, 1, 2] h
      refine AW.ro ?_
      refine AW.ks [0, 1, 2] [1, 2, 3, 13, 36] ?_
      refine AW.tt h (fun hb31 h => ?_) fun hb31 h => ?_
      · refine AW.sk ?_
        exact ja [0, 1, 2] h
      refine AW.rp ?_
      exact ja [0, 1, 2] h
    refine AW.tt h (fun hb32 h => ?_) fun hb32 h => ?_
    · refine AW.ro ?_
      refine AW.ret ?_
      have h := up h hJ7
      cases h; refine nz ?_; exact .aggL ⟨.same _, .nil, trivial⟩
    refine AW.ro ?_
    refine AW.ks [0, 1, 2] [1, 2, 3, 13, 41] ?_
    refine AW.tt h (fun hb33 h => ?_) fun hb33 h => ?_
    · refine AW.ro ?_
      refine AW.ret ?_
      have h := up h hJ7
      cases h; refine nz ?_; exact .aggL ⟨.same _, .nil, trivial⟩
    refine AW.ro ?_
    refine AW.ks [0, 1, 2] [1, 2, 3, 44] ?_
    refine AW.tk h (fun hb34 h => ?_) fun hb34 h => ?_
    · refine AW.one ?_
      refine AW.ro ?_
      refine AW.ks [0, 1, 2] [1, 2, 3, 4] ?_
      refine AW.cutS [0, 1, 2] [] [] [(2, ⟨2, [[.d (.val (.bool false)), .d (slD strV [])]]⟩)] [(1, .ptr 0 6 0 0), (2, .ptr 1 2 0 0), (3, .ptr 2 2 0 0), (4, vI (0 : Int))] [vE p0.enc, some ⟨2, [[vB false, .d (.val (.slice none 0 0))]]⟩, some ⟨2, [[vB false, vL strV []]]⟩] (by simp only [go_sem, reduceEqDiff, reduceAdd, reduceSub, reduceMul, reduceLeDiff, reduceLT, Nat.reduceBEq, reduceIte, sealL_cons, sealL_nil]) (by simp only [go_sem, reduceEqDiff, reduceAdd, reduceSub, reduceMul, reduceLeDiff, reduceLT, Nat.reduceBEq, reduceIte, sealH_cons, sealH_nil]; exact ⟨⟨.same _, .nil, trivial⟩, trivial⟩) (by simp only [go_sem, reduceEqDiff, reduceAdd, reduceSub, reduceMul, reduceLeDiff, reduceLT, Nat.reduceBEq, reduceIte]) ?_
      refine AW.lm h (fun e40_0 => [(2, .ptr 0 2 0 0), (3, .ptr 1 2 0 0)]) (fun e40_0 => [some ⟨2, [[vB false, .d (.val (.slice none 0 0))]]⟩, vE e40_0.enc]) (fun (i39_0, i39_1) => [(1, .ptr 0 6 0 0), (2, .ptr 1 2 0 0), (3, .ptr 2 2 0 0), (4, vI i39_0)]) (fun (i39_0, i39_1) => [vE p0.enc, some ⟨2, [[vB false, .d (.val (.slice none 0 0))]]⟩, vE i39_1.enc]) [0, 1, 2] (fun oJ42 again ⟨i39_0, i39_1⟩ h => ?_) fun e40_0 h => ?_
      · try dsimp only at h
        refine AW.one ?_
        refine AW.ro ?_
        refine AW.ks [0, 1, 2] [1, 2, 3, 4, 51] ?_
        refine AW.tt h (fun hb43 h => ?_) fun hb43 h => ?_
        · refine AW.sk ?_
          refine AW.ks [0, 1, 2] [1, 2, 3, 4] ?_
          refine AW.one ?_
          refine AW.block ?_
          refine AW.rp ?_
          refine bx h fun x44 h0 h1 h => ?_
          refine pm h (hself46 _ _) fun r46 hx47 h => ?_
          refine pm h r10_join_ok fun r48 hx49 h => ?_
          refine AW.ks [0, 1, 2] [1, 2, 3, 4] ?_
          refine AW.rp ?_
          exact na [0, 1, 2] h
        refine AW.ex ?_
        exact ja [1, 2] h
      refine AW.kr [0, 1] [2, 3] ?_
      refine AW.ret ?_
      have h := up h hJ7
      cases h; refine nz ?_; exact .same _
    refine JoinQ.mkS (false, []) [0, 1, 2] [] [] [(2, ⟨2, [[.d (.val (.bool false)), .d (slD strV [])]]⟩)] (Option.some.inj h).symm (by simp only [go_sem, reduceEqDiff, reduceAdd, reduceSub, reduceMul, reduceLeDiff, reduceLT, Nat.reduceBEq, reduceIte, sealL_cons, sealL_nil]) (by simp only [go_sem, reduceEqDiff, reduceAdd, reduceSub, reduceMul, reduceLeDiff, reduceLT, Nat.reduceBEq, reduceIte, sealH_cons, sealH_nil]; exact ⟨⟨.same _, .nil, trivial⟩, trivial⟩) (by simp only [go_sem, reduceEqDiff, reduceAdd, reduceSub, reduceMul, reduceLeDiff, reduceLT, Nat.reduceBEq, reduceIte])
  try dsimp only at h
  refine AW.one ?_
  refine AW.ro ?_
  refine AW.ks [0, 1, 2] [1, 2, 3, 5] ?_
  refine AW.lm h (fun e51_0 => [(2, .ptr 0 2 0 0), (3, .ptr 1 2 0 0)]) (fun e51_0 => [some ⟨2, [[vB false, .d (.val (.slice none 0 0))]]⟩, vE e51_0.enc]) (fun (i50_0, i50_1) => [(1, .ptr 0 6 0 0), (2, .ptr 1 2 0 0), (3, .ptr 2 2 0 0), (5, vI i50_0)]) (fun (i50_0, i50_1) => [vE p0.enc, some ⟨2, [[vB false, .d (.val (.slice none 0 0))]]⟩, vE i50_1.enc]) [0, 1, 2] (fun oJ53 again ⟨i50_0, i50_1⟩ h => ?_) fun e51_0 h => ?_
  · try dsimp only at h
    refine AW.one ?_
    refine AW.ro ?_
    refine AW.ks [0, 1, 2] [1, 2, 3, 5, 67] ?_
    refine AW.tt h (fun hb54 h => ?_) fun hb54 h => ?_
    · refine AW.sk ?_
      refine AW.ks [0, 1, 2] [1, 2, 3, 5] ?_
      refine AW.one ?_
      refine AW.block ?_
      refine AW.rp ?_
      refine bx h fun x55 h0 h1 h => ?_
      refine pm h (hself46 _ _) fun r57 hx58 h => ?_
      refine pm h r10_join_ok fun r59 hx60 h => ?_
      refine AW.ks [0, 1, 2] [1, 2, 3, 5] ?_
      refine AW.rp ?_
      exact na [0, 1, 2] h
    refine AW.ex ?_
    exact ja [1, 2] h
  refine AW.kr [0, 1] [2, 3] ?_
  refine AW.ret ?_
  cases h; refine nz ?_; exact .same _
def r10_bound (K : Nat) (p0 : NodeA) : Option Api_NamesA := iter K (fun self q => r10_bound_body K self q) p0
theorem key_r10_bound {K : Nat} (k : Nat) : (∀ (q : NodeA) (r : Api_NamesA), iter k (fun self q => r10_bound_body K self q) q = some r → Cn Tryz.prog 46 [aggV q.enc] (aggV r.enc)) := by
  induction k with
  | zero => exact fun q r h => by cases h
  | succ k ih => exact fun q r h => r10_bound_step K _ ih q r h
theorem r10_bound_ok {K : Nat} {p0 : NodeA} {r : Api_NamesA} (h : r10_bound K p0 = some r) : Cn Tryz.prog 46 [aggV p0.enc] (aggV r.enc) := (key_r10_bound K) p0 r h
/-! ### isochrone/isochroneref10.BoundOf -/
def r10_BoundOf (K : Nat) (p0 : NodeA) : Option Api_NamesA := (r10_bound K p0).bind fun r1 => 
  some r1
set_option maxHeartbeats 4000000 in
theorem r10_BoundOf_ok {K : Nat} {p0 : NodeA} {r : Api_NamesA} (h : r10_BoundOf K p0 = some r) : Cn Tryz.prog 17 [aggV p0.enc] (aggV r.enc) := by
  refine Cn.oz Tryz.func17 Tryz.call17 Tryz.ntmps17 Tryz.results17 fun hfit => ?_
  unfold r10_BoundOf at h
  refine AW.kr [] [0] ?_
  refine AW.kr [0, 1] [1, 2] ?_
  refine cm h r10_bound_ok fun r1 hx2 h => ?_
  refine AW.ret ?_
  cases h; refine nz ?_; exact .same _
/-! ### isochrone/isochroneref10.Has -/
def r10_Has (K : Nat) (p0 : Api_NamesA) (p1 : ByteArray) : Option Bool := (r10_listed K p0.list p1).bind fun r1 => 
  some (!(r1 == p0.all))
set_option maxHeartbeats 4000000 in
theorem r10_Has_ok {K : Nat} {p0 : Api_NamesA} {p1 : ByteArray} {r : Bool} (h : r10_Has K p0 p1 = some r) : Cn Tryz.prog 79 [aggV p0.enc, .d (.val (.string p1))] (.d (.val (.bool r))) := by
  refine Cn.oz Tryz.func79 Tryz.call79 Tryz.ntmps79 Tryz.results79 fun hfit => ?_
  unfold r10_Has at h
  refine AW.kr [] [0, 1] ?_
  refine AW.kr [0] [1, 2] ?_
  refine pm h r10_listed_ok fun r1 hx2 h => ?_
  refine AW.ret ?_
  cases h; refine nz ?_; exact .same _
/-! ### isochrone/isochroneref18.touches -/
def r18_touches (K : Nat) (p0 : NodeA) (p1 : ByteArray) : Option Bool := (r10_FreeOf K p0).bind fun r1 => 
  (r10_Has K r1 p1).bind fun r3 => 
  if r3 then
    some true
  else
    (r10_BoundOf K p0).bind fun r6 => 
    (r10_Has K r6 p1).bind fun r8 => 
    some r8
set_option maxHeartbeats 4000000 in
theorem r18_touches_ok {K : Nat} {p0 : NodeA} {p1 : ByteArray} {r : Bool} (h : r18_touches K p0 p1 = some r) : Cn Tryz.prog 38 [aggV p0.enc, .d (.val (.string p1))] (.d (.val (.bool r))) := by
  refine Cn.oz Tryz.func38 Tryz.call38 Tryz.ntmps38 Tryz.results38 fun hfit => ?_
  unfold r18_touches at h
  refine AW.kr [] [0, 1] ?_
  refine AW.kr [0] [1, 2] ?_
  refine cm h r10_FreeOf_ok fun r1 hx2 h => ?_
  refine cm h r10_Has_ok fun r3 hx4 h => ?_
  refine sK h (fun hb5 h => ?_) fun hb5 h => ?_
  · refine AW.ret ?_
    cases h; refine nz ?_; exact .same _
  refine cm h r10_BoundOf_ok fun r6 hx7 h => ?_
  refine cm h r10_Has_ok fun r8 hx9 h => ?_
  refine AW.ret ?_
  cases h; refine nz ?_; exact .same _
/-! ### isochrone/isochroneref18.Bound -/
def r18_Bound (K : Nat) (p0 : NodeA) (p1 : List Int) (p2 : ByteArray) : Option (NodeA × Int) := (r18_check K p0).bind fun r1 => 
  if (r1 != (0 : Int)) then
    some ((NodeA.mk (0 : Int) (⟨#[]⟩ : ByteArray) (RatA.mk false [] []) []), r1)
  else
    (r08_At K p0 p1).bind fun r4 => 
    if (r4.2 != (0 : Int)) then
      some ((NodeA.mk (0 : Int) (⟨#[]⟩ : ByteArray) (RatA.mk false [] []) []), r4.2)
    else
      (r18_binder K r4.1).bind fun r7 => 
      ((
        ((
          (r08_Name K p2).bind fun r13 => 
          if (!r13) then
            some true
          else
            some (!r7.2.2)) : Option Bool).bind (fun v11_0 => 
        if v11_0 then
          outM (
            some ((NodeA.mk (0 : Int) (⟨#[]⟩ : ByteArray) (RatA.mk false [] []) []), (3 : Int)))
        else
          some (.go ()))) : Option (Out Unit _)).bind (Out.fin fun _ => 
      ((
        ((
          if (r7.1.toList == p2.toList) then
            some true
          else
            (r18_renamable K r7.2.1).bind fun r22 => 
            if (!r22) then
              some true
            else
              (r18_touches K r7.2.1 p2).bind fun r25 => 
              if r25 then
                some true
              else
                (catO p2 (⟨#[39]⟩ : ByteArray)).bind fun s28 => 
                (r18_touches K r7.2.1 s28).bind fun r30 => 
                if r30 then
                  some true
                else
                  (catO r7.1 (⟨#[39]⟩ : ByteArray)).bind fun s33 => 
                  (r18_touches K r7.2.1 s33).bind fun r35 => 
                  some r35) : Option Bool).bind (fun v19_0 => 
        if v19_0 then
          outM (
            some ((NodeA.mk (0 : Int) (⟨#[]⟩ : ByteArray) (RatA.mk false [] []) []), (180 : Int)))
        else
          some (.go ()))) : Option (Out Unit _)).bind (Out.fin fun _ => 
      (r18_Exchange K r7.2.1 r7.1 p2).bind fun r38 => 
      (r18_rebound K r4.1 p2 r38).bind fun r40 => 
      (r08_Put K p0 p1 r40).bind fun r42 => 
      some (r42, (0 : Int))))
set_option maxHeartbeats 4000000 in
theorem r18_Bound_ok {K : Nat} {p0 : NodeA} {p1 : List Int} {p2 : ByteArray} {r : NodeA × Int} (h : r18_Bound K p0 p1 p2 = some r) : Cn Tryz.prog 10 [aggV p0.enc, .d (slD i64V p1), .d (.val (.string p2))] (.tup [aggV r.1.enc, .d (.val (.int .i64 r.2))]) := by
  refine Cn.oz Tryz.func10 Tryz.call10 Tryz.ntmps10 Tryz.results10 fun hfit => ?_
  unfold r18_Bound at h
  refine AW.kr [] [0, 1, 2] ?_
  refine AW.ks [0, 1] [1, 2, 3, 6] ?_
  refine AW.one ?_
  refine AW.ro ?_
  refine cm h r18_check_ok fun r1 hx2 h => ?_
  refine AW.kr [0, 1] [1, 2, 3, 6, 8] ?_
  refine AW.ks [0, 1] [1, 2, 3, 6, 8, 17] ?_
  refine AW.tk h (fun hb3 h => ?_) fun hb3 h => ?_
  · refine AW.ro ?_
    refine AW.ret ?_
    cases h; refine nz ?_; exact .tupL ⟨.aggL ⟨.same _, .same _, .same _, .nil, .nil, .nil, trivial⟩, .same _, trivial⟩
  refine AW.kr [0, 1] [1, 2, 3, 6] ?_
  refine cm h r08_At_ok fun r4 hx5 h => ?_
  refine AW.ks [0, 1, 8] [1, 2, 3, 6, 9, 10] ?_
  refine AW.one ?_
  refine AW.ro ?_
  refine AW.ks [0, 1, 2] [1, 2, 3, 6, 9, 10, 27] ?_
  refine AW.tk h (fun hb6 h => ?_) fun hb6 h => ?_
  · refine AW.ro ?_
    refine AW.ret ?_
    cases h; refine nz ?_; exact .tupL ⟨.aggL ⟨.same _, .same _, .same _, .nil, .nil, .nil, trivial⟩, .same _, trivial⟩
  refine AW.kr [0, 1, 2] [1, 2, 3, 6, 9] ?_
  refine cm h r18_binder_ok fun r7 hx8 h => ?_
  refine AW.ks [0, 1, 2, 9] [1, 2, 3, 6, 9, 11, 12, 13] ?_
  refine AW.jo h (fun _ => [(1, vL i64V p1), (2, vS p2), (3, .ptr 0 6 0 0), (6, .ptr 1 6 0 0), (9, .ptr 2 6 0 0), (11, vS r7.1), (12, .ptr 3 6 0 0)]) (fun _ => [vE p0.enc, some ⟨6, [[vI (0 : Int), vS (⟨#[]⟩ : ByteArray), vB false, .d (.val (.slice none 0 0)), .d (.val (.slice none 0 0)), .d (.val (.slice none 0 0))]]⟩, vE r4.1.enc, vE r7.2.1.enc]) (fun oJ10 h hJ10 => ?_) fun ⟨⟩ h => ?_
  · refine AW.jn h (fun v11_0 => [(1, vL i64V p1), (2, vS p2), (3, .ptr 0 6 0 0), (6, .ptr 1 6 0 0), (9, .ptr 2 6 0 0), (11, vS r7.1), (12, .ptr 3 6 0 0), (42, vB v11_0)]) (fun v11_0 => [vE p0.enc, some ⟨6, [[vI (0 : Int), vS (⟨#[]⟩ : ByteArray), vB false, .d (.val (.slice none 0 0)), .d (.val (.slice none 0 0)), .d (.val (.slice none 0 0))]]⟩, vE r4.1.enc, vE r7.2.1.enc]) (fun oJ12 h => ?_) fun v11_0 h => ?_
    · refine AW.rp ?_
      refine cm h r08_Name_ok fun r13 hx14 h => ?_
      refine sK h (fun hb15 h => ?_) fun hb15 h => ?_
      · exact ja [0, 1, 2, 3] h
      exact ja [0, 1, 2, 3] h
    refine AW.tk h (fun hb16 h => ?_) fun hb16 h => ?_
    · refine AW.ro ?_
      refine AW.ret ?_
      have h := up h hJ10
      cases h; refine nz ?_; exact .tupL ⟨.aggL ⟨.same _, .same _, .same _, .nil, .nil, .nil, trivial⟩, .same _, trivial⟩
    exact jo [0, 1, 2, 3] h
  refine AW.jo h (fun _ => [(1, vL i64V p1), (2, vS p2), (3, .ptr 0 6 0 0), (6, .ptr 1 6 0 0), (9, .ptr 2 6 0 0), (11, vS r7.1), (12, .ptr 3 6 0 0)]) (fun _ => [vE p0.enc, some ⟨6, [[vI (0 : Int), vS (⟨#[]⟩ : ByteArray), vB false, .d (.val (.slice none 0 0)), .d (.val (.slice none 0 0)), .d (.val (.slice none 0 0))]]⟩, vE r4.1.enc, vE r7.2.1.enc]) (fun oJ18 h hJ18 => ?_) fun ⟨⟩ h => ?_
  · refine AW.jn h (fun v19_0 => [(1, vL i64V p1), (2, vS p2), (3, .ptr 0 6 0 0), (6, .ptr 1 6 0 0), (9, .ptr 2 6 0 0), (11, vS r7.1), (12, .ptr 3 6 0 0), (68, vB v19_0)]) (fun v19_0 => [vE p0.enc, some ⟨6, [[vI (0 : Int), vS (⟨#[]⟩ : ByteArray), vB false, .d (.val (.slice none 0 0)), .d (.val (.slice none 0 0)), .d (.val (.slice none 0 0))]]⟩, vE r4.1.enc, vE r7.2.1.enc]) (fun oJ20 h => ?_) fun v19_0 h => ?_
    · refine AW.rp ?_
      refine sK h (fun hb21 h => ?_) fun hb21 h => ?_
      · exact ja [0, 1, 2, 3] h
      refine cm h r18_renamable_ok fun r22 hx23 h => ?_
      refine sK h (fun hb24 h => ?_) fun hb24 h => ?_
      · exact ja [0, 1, 2, 3] h
      refine cm h r18_touches_ok fun r25 hx26 h => ?_
      refine sK h (fun hb27 h => ?_) fun hb27 h => ?_
      · exact ja [0, 1, 2, 3] h
      apply bE h; intro s28 hx29 h; have hx29 := bt hx29; refine ns ?_
      refine cm h r18_touches_ok fun r30 hx31 h => ?_
      refine sK h (fun hb32 h => ?_) fun hb32 h => ?_
      · exact ja [0, 1, 2, 3] h
      apply bE h; intro s33 hx34 h; have hx34 := bt hx34; refine ns ?_
      refine cm h r18_touches_ok fun r35 hx36 h => ?_
      exact ja [0, 1, 2, 3] h
    refine AW.tk h (fun hb37 h => ?_) fun hb37 h => ?_
    · refine AW.ro ?_
      refine AW.ret ?_
      have h := up h hJ18
      cases h; refine nz ?_; exact .tupL ⟨.aggL ⟨.same _, .same _, .same _, .nil, .nil, .nil, trivial⟩, .same _, trivial⟩
    exact jo [0, 1, 2, 3] h
  refine AW.ro ?_
  refine pm h r18_Exchange_ok fun r38 hx39 h => ?_
  refine pm h r18_rebound_ok fun r40 hx41 h => ?_
  refine pm h r08_Put_ok fun r42 hx43 h => ?_
  refine AW.ret ?_
  cases h; refine nz ?_; exact .same _
/-! ### isochrone/isochronelaw18.RenameBound -/
def law18_RenameBound (K : Nat) (p0 : NodeA) (p1 : List Int) (p2 : ByteArray) : Option Bool := (law18_awake K ).bind fun r1 => 
  if (!r1) then
    some false
  else
    (r08_Size K p0).bind fun r4 => 
    if (decide ((1000 : Int) < r4)) then
      some true
    else
      (rename_Bound K p0 p1 p2).bind fun r7 => 
      (r18_Bound K p0 p1 p2).bind fun r9 => 
      ((
        ((
          if (r7.2 != r9.2) then
            some true
          else
            (r08_Equal K r7.1 r9.1).bind fun r16 => 
            some (!r16)) : Option Bool).bind (fun v13_0 => 
        if v13_0 then
          outM (
            some false)
        else
          some (.go ()))) : Option (Out Unit _)).bind (Out.fin fun _ => 
      if (r7.2 != (0 : Int)) then
        some true
      else
        (r10_FreeOf K r7.1).bind fun r20 => 
        (r10_FreeOf K p0).bind fun r22 => 
        (r10_Same K r20 r22).bind fun r24 => 
        some r24)
set_option maxHeartbeats 4000000 in
theorem law18_RenameBound_ok {K : Nat} {p0 : NodeA} {p1 : List Int} {p2 : ByteArray} {r : Bool} (h : law18_RenameBound K p0 p1 p2 = some r) : Cn Tryz.prog 3 [aggV p0.enc, .d (slD i64V p1), .d (.val (.string p2))] (.d (.val (.bool r))) := by
  refine Cn.oz Tryz.func3 Tryz.call3 Tryz.ntmps3 Tryz.results3 fun hfit => ?_
  unfold law18_RenameBound at h
  refine AW.kr [] [0, 1, 2] ?_
  refine AW.ks [0] [1, 2, 3] ?_
  refine AW.one ?_
  refine AW.ro ?_
  refine cm h law18_awake_ok fun r1 hx2 h => ?_
  refine AW.ks [0] [1, 2, 3, 12] ?_
  refine AW.tk h (fun hb3 h => ?_) fun hb3 h => ?_
  · refine AW.ro ?_
    refine AW.ret ?_
    cases h; refine nz ?_; exact .same _
  refine AW.ks [0] [1, 2, 3] ?_
  refine AW.one ?_
  refine AW.ro ?_
  refine cm h r08_Size_ok fun r4 hx5 h => ?_
  refine AW.ks [0] [1, 2, 3, 15] ?_
  refine AW.tk h (fun hb6 h => ?_) fun hb6 h => ?_
  · refine AW.ro ?_
    refine AW.ret ?_
    cases h; refine nz ?_; exact .same _
  refine AW.kr [0] [1, 2, 3] ?_
  refine cm h rename_Bound_ok fun r7 hx8 h => ?_
  refine AW.kr [0, 8] [1, 2, 3, 7, 8] ?_
  refine cm h r18_Bound_ok fun r9 hx10 h => ?_
  refine AW.ks [0, 1, 9] [3, 7, 8, 9, 10] ?_
  refine AW.jo h (fun _ => [(3, .ptr 0 6 0 0), (7, .ptr 1 6 0 0), (8, vI r7.2)]) (fun _ => [vE p0.enc, vE r7.1.enc]) (fun oJ12 h hJ12 => ?_) fun ⟨⟩ h => ?_
  · refine AW.jn h (fun v13_0 => [(3, .ptr 0 6 0 0), (7, .ptr 1 6 0 0), (8, vI r7.2), (38, vB v13_0)]) (fun v13_0 => [vE p0.enc, vE r7.1.enc]) (fun oJ14 h => ?_) fun v13_0 h => ?_
    · refine AW.rp ?_
      refine sK h (fun hb15 h => ?_) fun hb15 h => ?_
      · exact ja [0, 1] h
      refine cm h r08_Equal_ok fun r16 hx17 h => ?_
      exact ja [0, 1] h
    refine AW.tk h (fun hb18 h => ?_) fun hb18 h => ?_
    · refine AW.ro ?_
      refine AW.ret ?_
      have h := up h hJ12
      cases h; refine nz ?_; exact .same _
    exact jo [0, 1] h
  refine AW.ro ?_
  refine sK h (fun hb19 h => ?_) fun hb19 h => ?_
  · refine AW.ret ?_
    cases h; refine nz ?_; exact .same _
  refine pm h r10_FreeOf_ok fun r20 hx21 h => ?_
  refine pm h r10_FreeOf_ok fun r22 hx23 h => ?_
  refine pm h r10_Same_ok fun r24 hx25 h => ?_
  refine AW.ret ?_
  cases h; refine nz ?_; exact .same _
/-! ### isochrone/isochroneref18.Uniform -/
/-! ### isochrone/rename.Uniform -/
/-! ### isochrone/isochronelaw18.RenameUniform -/
/-! ### isochrone/isochroneref10.Only -/
/-! ### isochrone/isochroneref10.Variable -/
/-! ### isochrone/isochroneref10.Valid -/
/-! ### isochrone/isochroneref10.Union -/
/-! ### isochrone/isochronelaw18.swapped -/
/-! ### isochrone/isochroneref10.MustOf -/
end Go.Proofs.YtngmfimpaembnaaGreatDoor
