/- Part of the proof of a law: contracts of the functions that the law reaches, or plain laws of them, out of the abstract layer (the texts YtfnfjjgphhoigaaGreatIso..). No condition. -/
import Derived.Test.YtfnfjjgphhoigaaGreatW
import Derived.Test.YtfnfjjgphhoigaaGreatIsoGG
import Derived.Test.YtfnfjjgphhoigaaGreatShelf
import Derived.Test.YtfnfjjgphhoigaaGreatIsoV
import Derived.Test.YtfnfjjgphhoigaaGreatPa
open Nat (reduceEqDiff reduceAdd reduceSub reduceMul reduceLeDiff reduceLT)
namespace Go.Proofs.YtfnfjjgphhoigaaGreat
open Go Go.Iso Go.Proofs
set_option linter.unusedSimpArgs false
set_option linter.unusedVariables false
set_option maxRecDepth 100000
/-! ### (*isochrone/subst.walker).with -/
def subst_walker_with (K : Nat) (p0 : Subst_walkerA) (p1 : NodeA) : Option (Api_PairA × Bool × Subst_walkerA) := (static_SymbolOf K p1).bind fun r1 =>
 if (!r1.2) then
  some ((Api_PairA.mk (NodeA.mk (0 : Int) (⟨#[]⟩ : ByteArray) (RatA.mk false [] []) []) (NodeA.mk (0 : Int) (⟨#[]⟩ : ByteArray) (RatA.mk false [] []) []) []), false, p0)
 else
  ((iter (S := Int) (R := Out Unit _) K (fun again i4_0 =>
   if (decide (i4_0 < (p0.pairs.length : Int))) then
    (idx p0.pairs i4_0).bind fun x9 =>
    (tree_Equal K x9.what r1.1).bind fun r11 =>
    if r11 then
     outM (
      some (x9, true, p0))
    else
     again (IntKind.wrap .i64 (i4_0 + (1 : Int)))
   else
    some (.go ())) (0 : Int)) : Option (Out Unit _)).bind (Out.fin fun _ =>
  some ((Api_PairA.mk (NodeA.mk (0 : Int) (⟨#[]⟩ : ByteArray) (RatA.mk false [] []) []) (NodeA.mk (0 : Int) (⟨#[]⟩ : ByteArray) (RatA.mk false [] []) []) []), false, p0))
set_option maxHeartbeats 4000000 in
theorem subst_walker_with_ok {K : Nat} {p0 : Subst_walkerA} {p1 : NodeA} {r : Api_PairA × Bool × Subst_walkerA} (h : subst_walker_with K p0 p1 = some r) : Cm Tryz.prog 53 [.ptr 0 5 0 0, aggV p1.enc] 1 ([some ⟨5, [[.d (slD Api_PairA.enc p0.pairs), gV 1 1 p0.path, .d (slD i64V p0.clash), .d (.val (.bool p0.found)), .d (.val (.bool p0.great))]]⟩] ++ [gO i64V 1 p0.path]) (.tup [aggV r.1.enc, .d (.val (.bool r.2.1))]) ([some ⟨5, [[.d (slD Api_PairA.enc r.2.2.pairs), gV 1 1 r.2.2.path, .d (slD i64V r.2.2.clash), .d (.val (.bool r.2.2.found)), .d (.val (.bool r.2.2.great))]]⟩] ++ [gO i64V 1 r.2.2.path]) := by
 refine Cm.ofA mixed Tryz.func53 rfl Tryz.call53 Tryz.ntmps53 Tryz.results53 (by simp) rfl rfl (by simp only [go_sem, reduceEqDiff, reduceAdd, reduceSub, reduceMul, reduceLeDiff, reduceLT, Nat.reduceBEq, reduceIte, List.length_cons]) (by simp only [go_sem, reduceEqDiff, reduceAdd, reduceSub, reduceMul, reduceLeDiff, reduceLT, Nat.reduceBEq, reduceIte]) (by simp only [go_sem, reduceEqDiff, reduceAdd, reduceSub, reduceMul, reduceLeDiff, reduceLT, Nat.reduceBEq, reduceIte]) (by simp only [go_sem, reduceEqDiff, reduceAdd, reduceSub, reduceMul, reduceLeDiff, reduceLT, Nat.reduceBEq, reduceIte]) datO_g datO_g fun hfit => ?_
 unfold subst_walker_with at h
 refine AW.kr [0, 1] [0, 1] ?_
 refine AW.kr [0, 1, 2, 3] [0, 3, 4] ?_
 refine cm h static_SymbolOf_ok fun r1 hx2 h => ?_
 refine AW.ks [0, 1, 3, 9] [0, 4, 6, 7] ?_
 refine AW.one ?_
 refine AW.ro ?_
 refine AW.ks [0, 1, 2, 3] [0, 4, 6, 16] ?_
 refine AW.tk h (fun hb3 h => ?_) fun hb3 h => ?_
 ·refine AW.ro ?_
  refine AW.ret ?_
  cases h; refine nz ?_; refine EndM.mk 1 (by decide) (by simp only [go_sem, reduceEqDiff, reduceAdd, reduceSub, reduceMul, reduceLeDiff, reduceLT, Nat.reduceBEq, reduceIte]) (ns ?_); exact ⟨.tupL ⟨.aggL ⟨.same _, .same _, .same _, .nil, .nil, .nil, .same _, .same _, .same _, .nil, .nil, .nil, .nil, trivial⟩, .same _, trivial⟩, ⟨⟨.same _, .same _, .same _, .same _, .same _, trivial⟩, trivial⟩⟩
 refine AW.ks [0, 1, 2, 3] [0, 4, 6] ?_
 refine AW.one ?_
 refine AW.ro ?_
 refine AW.ks [0, 1, 2, 3] [4, 6, 21, 22, 23] ?_
 refine AW.lp h (fun _ => [(4, .ptr 1 13 0 0)]) (fun _ => [some ⟨5, [[vL Api_PairA.enc p0.pairs, gV 2 1 p0.path, vL i64V p0.clash, vB p0.found, vB p0.great]]⟩, some ⟨13, [[vI (0 : Int), vS (⟨#[]⟩ : ByteArray), vB false, .d (.val (.slice none 0 0)), .d (.val (.slice none 0 0)), .d (.val (.slice none 0 0)), vI (0 : Int), vS (⟨#[]⟩ : ByteArray), vB false, .d (.val (.slice none 0 0)), .d (.val (.slice none 0 0)), .d (.val (.slice none 0 0)), .d (.val (.slice none 0 0))]]⟩, gO i64V 1 p0.path]) (fun i4_0 => [(4, .ptr 1 13 0 0), (6, .ptr 2 6 0 0), (21, vL Api_PairA.enc p0.pairs), (22, vI (p0.pairs.length : Int)), (23, vI i4_0)]) (fun i4_0 => [some ⟨5, [[vL Api_PairA.enc p0.pairs, gV 3 1 p0.path, vL i64V p0.clash, vB p0.found, vB p0.great]]⟩, some ⟨13, [[vI (0 : Int), vS (⟨#[]⟩ : ByteArray), vB false, .d (.val (.slice none 0 0)), .d (.val (.slice none 0 0)), .d (.val (.slice none 0 0)), vI (0 : Int), vS (⟨#[]⟩ : ByteArray), vB false, .d (.val (.slice none 0 0)), .d (.val (.slice none 0 0)), .d (.val (.slice none 0 0)), .d (.val (.slice none 0 0))]]⟩, vE r1.1.enc, gO i64V 1 p0.path]) [0, 2, 3, 1] (fun oJ7 hJ7 again i4_0 h => ?_) fun ⟨⟩ h => ?_
 ·refine AW.ro ?_
  refine AW.ks [0, 3, 1, 2] [4, 6, 21, 22, 23, 24] ?_
  refine AW.one ?_
  refine AW.tt h (fun hb8 h => ?_) fun hb8 h => ?_
  ·refine AW.sk ?_
   refine AW.ks [0, 1, 2, 3] [4, 6, 21, 22, 23] ?_
   refine AW.one ?_
   refine AW.block ?_
   refine AW.ro ?_
   refine bx h fun x9 h0 h1 h => ?_
   refine AW.kr [0, 1, 2, 3, 6] [4, 6, 9, 21, 22, 23] ?_
   refine cm h tree_Equal_ok fun r11 hx12 h => ?_
   refine AW.ks [0, 1, 2, 3, 4] [4, 6, 9, 21, 22, 23, 30] ?_
   refine AW.tk h (fun hb13 h => ?_) fun hb13 h => ?_
   ·refine AW.ro ?_
    refine AW.ret ?_
    have h := up h hJ7
    cases h; refine nz ?_; refine EndM.mk 1 (by decide) (by simp only [go_sem, reduceEqDiff, reduceAdd, reduceSub, reduceMul, reduceLeDiff, reduceLT, Nat.reduceBEq, reduceIte]) (ns ?_); exact ⟨.same _, ⟨⟨.same _, .same _, .same _, .same _, .same _, trivial⟩, trivial⟩⟩
   refine AW.ks [0, 1, 2, 3] [4, 6, 21, 22, 23] ?_
   refine AW.rp ?_
   exact na [0, 2, 3, 1] h
  refine AW.ex ?_
  exact jo [0, 2, 1] h
 refine AW.kr [0, 2, 1] [4] ?_
 refine AW.ret ?_
 cases h; refine nz ?_; refine EndM.mk 1 (by decide) (by simp only [go_sem, reduceEqDiff, reduceAdd, reduceSub, reduceMul, reduceLeDiff, reduceLT, Nat.reduceBEq, reduceIte]) (ns ?_); exact ⟨.tupL ⟨.aggL ⟨.same _, .same _, .same _, .nil, .nil, .nil, .same _, .same _, .same _, .nil, .nil, .nil, .nil, trivial⟩, .same _, trivial⟩, ⟨⟨.same _, .same _, .same _, .same _, .same _, trivial⟩, trivial⟩⟩
/-! ### (*isochrone/subst.walker).guard -/
def subst_walker_guard (K : Nat) (p0 : Subst_walkerA) (p1 : NodeA) (p2 : Api_NamesA) : Option Subst_walkerA := (subst_walker_stopped K p0).bind fun r1 =>
 if r1.1 then
  some r1.2
 else
  (static_SymbolsOf K p1).bind fun r4 =>
  ((iter (S := Int × (List Api_PairA) × (List Int) × Bool × Bool × (Option (List Int))) (R := Out ((List Api_PairA) × (List Int) × Bool × Bool × (Option (List Int))) _) K (fun again (i6_0, i6_1, i6_2, i6_3, i6_4, i6_5) =>
   if (decide (i6_0 < (r4.length : Int))) then
    ((
     (idx r4 i6_0).bind fun x13 =>
     ((
      ((
       if (x13.op != (10 : Int)) then
        some (x13.op != (37 : Int))
       else
        some false) : Option Bool).bind (fun v17_0 =>
      if v17_0 then
       outM (
        some (.go (i6_1, i6_2, i6_3, i6_4, i6_5)))
      else
       some (.go ()))) : Option (Out Unit _)).bind (Out.fin fun _ =>
     (subst_walker_with K (Subst_walkerA.mk i6_1 i6_5 i6_2 i6_3 i6_4) x13).bind fun r21 =>
     ((
      if r21.2.1 then
       (static_FreeOf K r21.1.with_).bind fun r26 =>
       (subst_apart K r26 p2).bind fun r28 =>
       some (!r28)
      else
       some false) : Option Bool).bind (fun v23_0 =>
     if v23_0 then
      (subst_walker_stop K r21.2.2).bind fun r31 =>
      outM (
       outM (
        some r31))
     else
      some (.go (r21.2.2.pairs, r21.2.2.clash, r21.2.2.found, r21.2.2.great, r21.2.2.path))))) : Option (Out ((List Api_PairA) × (List Int) × Bool × Bool × (Option (List Int))) _)).bind (Out.fin fun (v11_0, v11_1, v11_2, v11_3, v11_4) =>
    again (IntKind.wrap .i64 (i6_0 + (1 : Int)), v11_0, v11_1, v11_2, v11_3, v11_4))
   else
    some (.go (i6_1, i6_2, i6_3, i6_4, i6_5))) ((0 : Int), r1.2.pairs, r1.2.clash, r1.2.found, r1.2.great, r1.2.path)) : Option (Out ((List Api_PairA) × (List Int) × Bool × Bool × (Option (List Int))) _)).bind (Out.fin fun (e7_0, e7_1, e7_2, e7_3, e7_4) =>
  some (Subst_walkerA.mk e7_0 e7_4 e7_1 e7_2 e7_3))
set_option maxHeartbeats 4000000 in
theorem subst_walker_guard_ok {K : Nat} {p0 : Subst_walkerA} {p1 : NodeA} {p2 : Api_NamesA} {r : Subst_walkerA} (h : subst_walker_guard K p0 p1 p2 = some r) : Cm Tryz.prog 49 [.ptr 0 5 0 0, aggV p1.enc, aggV p2.enc] 1 ([some ⟨5, [[.d (slD Api_PairA.enc p0.pairs), gV 1 1 p0.path, .d (slD i64V p0.clash), .d (.val (.bool p0.found)), .d (.val (.bool p0.great))]]⟩] ++ [gO i64V 1 p0.path]) (.tup []) ([some ⟨5, [[.d (slD Api_PairA.enc r.pairs), gV 1 1 r.path, .d (slD i64V r.clash), .d (.val (.bool r.found)), .d (.val (.bool r.great))]]⟩] ++ [gO i64V 1 r.path]) := by
 refine Cm.ofA mixed Tryz.func49 rfl Tryz.call49 Tryz.ntmps49 Tryz.results49 (by simp) rfl rfl (by simp only [go_sem, reduceEqDiff, reduceAdd, reduceSub, reduceMul, reduceLeDiff, reduceLT, Nat.reduceBEq, reduceIte, List.length_cons]) (by simp only [go_sem, reduceEqDiff, reduceAdd, reduceSub, reduceMul, reduceLeDiff, reduceLT, Nat.reduceBEq, reduceIte]) (by simp only [go_sem, reduceEqDiff, reduceAdd, reduceSub, reduceMul, reduceLeDiff, reduceLT, Nat.reduceBEq, reduceIte]) (by simp only [go_sem, reduceEqDiff, reduceAdd, reduceSub, reduceMul, reduceLeDiff, reduceLT, Nat.reduceBEq, reduceIte]) datO_g datO_g fun hfit => ?_
 unfold subst_walker_guard at h
 refine AW.kr [0, 1] [0, 1, 2] ?_
 refine AW.ks [0, 1, 2, 3] [0, 4, 5] ?_
 refine AW.one ?_
 refine AW.ro ?_
 apply bE h; intro r1 hx2 h
 have hc := nx (subst_walker_stopped_ok (h := hx2))
 refine callK_grow [0] 1 hc (by simp only [go_sem, reduceEqDiff, reduceAdd, reduceSub, reduceMul, reduceLeDiff, reduceLT, Nat.reduceBEq, reduceIte] <;> rfl) (by simp) (by simp) (by simp only [go_sem, reduceEqDiff, reduceAdd, reduceSub, reduceMul, reduceLeDiff, reduceLT, Nat.reduceBEq, reduceIte]) ?_
 refine ns ?_
 refine AW.ks [0, 5, 2, 3] [0, 4, 5, 11] ?_
 refine AW.tk h (fun hb3 h => ?_) fun hb3 h => ?_
 ·refine AW.ret ?_
  cases h; refine nz ?_; refine EndM.mk 1 (by decide) (by simp only [go_sem, reduceEqDiff, reduceAdd, reduceSub, reduceMul, reduceLeDiff, reduceLT, Nat.reduceBEq, reduceIte]) (ns ?_); exact ⟨.same _, ⟨⟨.same _, .same _, .same _, .same _, .same _, trivial⟩, trivial⟩⟩
 refine AW.kr [0, 1, 2, 3] [0, 4, 5] ?_
 refine cm h static_SymbolsOf_ok fun r4 hx5 h => ?_
 refine AW.ks [0, 1, 3] [0, 5, 13, 14, 15] ?_
 refine AW.lp h (fun (e7_0, e7_1, e7_2, e7_3, e7_4) => []) (fun (e7_0, e7_1, e7_2, e7_3, e7_4) => [some ⟨5, [[vL Api_PairA.enc e7_0, gV 1 1 e7_4, vL i64V e7_1, vB e7_2, vB e7_3]]⟩, gO i64V 1 e7_4]) (fun (i6_0, i6_1, i6_2, i6_3, i6_4, i6_5) => [(0, .ptr 0 5 0 0), (5, .ptr 1 2 0 0), (13, vL NodeA.enc r4), (14, vI (r4.length : Int)), (15, vI i6_0)]) (fun (i6_0, i6_1, i6_2, i6_3, i6_4, i6_5) => [some ⟨5, [[vL Api_PairA.enc i6_1, gV 2 1 i6_5, vL i64V i6_2, vB i6_3, vB i6_4]]⟩, vE p2.enc, gO i64V 1 i6_5]) [0, 2, 1] (fun oJ9 hJ9 again ⟨i6_0, i6_1, i6_2, i6_3, i6_4, i6_5⟩ h => ?_) fun ⟨e7_0, e7_1, e7_2, e7_3, e7_4⟩ h => ?_
 ·try dsimp only at h
  refine AW.ro ?_
  refine AW.ks [0, 2, 1] [0, 5, 13, 14, 15, 16] ?_
  refine AW.one ?_
  refine AW.tt h (fun hb10 h => ?_) fun hb10 h => ?_
  ·refine AW.sk ?_
   refine AW.ks [0, 1, 2] [0, 5, 13, 14, 15] ?_
   refine AW.jo h (fun (v11_0, v11_1, v11_2, v11_3, v11_4) => [(0, .ptr 0 5 0 0), (5, .ptr 1 2 0 0), (13, vL NodeA.enc r4), (14, vI (r4.length : Int)), (15, vI i6_0)]) (fun (v11_0, v11_1, v11_2, v11_3, v11_4) => [some ⟨5, [[vL Api_PairA.enc v11_0, gV 2 1 v11_4, vL i64V v11_1, vB v11_2, vB v11_3]]⟩, vE p2.enc, gO i64V 1 v11_4]) (fun oJ12 h hJ12 => ?_) fun ⟨v11_0, v11_1, v11_2, v11_3, v11_4⟩ h => ?_
   ·refine AW.block ?_
    refine AW.ro ?_
    refine bx h fun x13 h0 h1 h => ?_
    refine AW.ks [0, 1, 2, 5] [0, 5, 7, 13, 14, 15] ?_
    refine AW.jo h (fun _ => [(0, .ptr 0 5 0 0), (5, .ptr 1 2 0 0), (7, .ptr 2 6 0 0), (13, vL NodeA.enc r4), (14, vI (r4.length : Int)), (15, vI i6_0)]) (fun _ => [some ⟨5, [[vL Api_PairA.enc i6_1, gV 3 1 i6_5, vL i64V i6_2, vB i6_3, vB i6_4]]⟩, vE p2.enc, vE x13.enc, gO i64V 1 i6_5]) (fun oJ16 h hJ16 => ?_) fun ⟨⟩ h => ?_
    ·refine AW.jn h (fun v17_0 => [(0, .ptr 0 5 0 0), (5, .ptr 1 2 0 0), (7, .ptr 2 6 0 0), (13, vL NodeA.enc r4), (14, vI (r4.length : Int)), (15, vI i6_0), (26, vB v17_0)]) (fun v17_0 => [some ⟨5, [[vL Api_PairA.enc i6_1, gV 3 1 i6_5, vL i64V i6_2, vB i6_3, vB i6_4]]⟩, vE p2.enc, vE x13.enc, gO i64V 1 i6_5]) (fun oJ18 h => ?_) fun v17_0 h => ?_
     ·refine AW.rp ?_
      refine sK h (fun hb19 h => ?_) fun hb19 h => ?_
      ·exact ja [0, 2, 3, 1] h
      exact ja [0, 2, 3, 1] h
     refine AW.tk h (fun hb20 h => ?_) fun hb20 h => ?_
     ·refine AW.ex ?_
      have h := up h hJ16
      exact jo [0, 1, 3] h
     exact jo [0, 1, 2, 3] h
    refine AW.ro ?_
    apply bE h; intro r21 hx22 h
    have hc := nx (subst_walker_with_ok (h := hx22))
    refine callK_grow [0] 3 hc (by simp only [go_sem, reduceEqDiff, reduceAdd, reduceSub, reduceMul, reduceLeDiff, reduceLT, Nat.reduceBEq, reduceIte] <;> rfl) (by simp) (by simp) (by simp only [go_sem, reduceEqDiff, reduceAdd, reduceSub, reduceMul, reduceLeDiff, reduceLT, Nat.reduceBEq, reduceIte]) ?_
    refine ns ?_
    refine AW.ks [0, 6, 1, 10] [0, 5, 8, 9, 13, 14, 15] ?_
    refine AW.jn h (fun v23_0 => [(0, .ptr 0 5 0 0), (5, .ptr 1 2 0 0), (13, vL NodeA.enc r4), (14, vI (r4.length : Int)), (15, vI i6_0), (41, vB v23_0)]) (fun v23_0 => [some ⟨5, [[vL Api_PairA.enc r21.2.2.pairs, gV 2 1 r21.2.2.path, vL i64V r21.2.2.clash, vB r21.2.2.found, vB r21.2.2.great]]⟩, vE p2.enc, gO i64V 1 r21.2.2.path]) (fun oJ24 h => ?_) fun v23_0 h => ?_
    ·refine AW.rp ?_
     refine sK h (fun hb25 h => ?_) fun hb25 h => ?_
     ·refine pm h static_FreeOf_ok fun r26 hx27 h => ?_
      refine pm h subst_apart_ok fun r28 hx29 h => ?_
      exact ja [0, 2, 1] h
     exact ja [0, 2, 1] h
    refine AW.tk h (fun hb30 h => ?_) fun hb30 h => ?_
    ·refine AW.ro ?_
     apply bE h; intro r31 hx32 h
     have hc := nx (subst_walker_stop_ok (h := hx32))
     refine callK_grow [0] 2 hc (by simp only [go_sem, reduceEqDiff, reduceAdd, reduceSub, reduceMul, reduceLeDiff, reduceLT, Nat.reduceBEq, reduceIte] <;> rfl) (by simp) (by simp) (by simp only [go_sem, reduceEqDiff, reduceAdd, reduceSub, reduceMul, reduceLeDiff, reduceLT, Nat.reduceBEq, reduceIte]) ?_
     refine ns ?_
     refine AW.ret ?_
     have h := up h hJ12
     have h := up h hJ9
     cases h; refine nz ?_; refine EndM.mk 4 (by decide) (by simp only [go_sem, reduceEqDiff, reduceAdd, reduceSub, reduceMul, reduceLeDiff, reduceLT, Nat.reduceBEq, reduceIte]) (ns ?_); exact ⟨.same _, ⟨⟨.same _, .same _, .same _, .same _, .same _, trivial⟩, trivial⟩⟩
    exact jo [0, 1, 2] h
   try dsimp only at h
   refine AW.rp ?_
   exact na [0, 1, 2] h
  refine AW.ex ?_
  exact jo [0, 1] h
 try dsimp only at h
 cases h; refine nz ?_; refine EndM.mk 1 (by decide) (by simp only [go_sem, reduceEqDiff, reduceAdd, reduceSub, reduceMul, reduceLeDiff, reduceLT, Nat.reduceBEq, reduceIte]) (ns ?_); exact ⟨.same _, ⟨⟨.same _, .same _, .same _, .same _, .same _, trivial⟩, trivial⟩⟩
/-! ### isochrone/tree.Size -/
def tree_Size_body (K : Nat) (self54 : NodeA → Option Int) (p0 : NodeA) : Option Int := ((iter (S := Int × Int) (R := Int) K (fun again (i1_0, i1_1) =>
  if (decide (i1_1 < (p0.kids.length : Int))) then
   (idx p0.kids i1_1).bind fun x6 =>
   (self54 (x6)).bind fun r8 =>
   again (IntKind.wrap .i64 (i1_0 + r8), IntKind.wrap .i64 (i1_1 + (1 : Int)))
  else
   some i1_0) ((1 : Int), (0 : Int))) : Option Int).bind (fun e2_0 =>
 some e2_0)
set_option maxHeartbeats 4000000 in
theorem tree_Size_step (K : Nat) (self54 : NodeA → Option Int) (hself54 : ∀ (q : NodeA) (r : Int), self54 q = some r → Cn Tryz.prog 54 [aggV q.enc] (.d (.val (.int .i64 r)))) (p0 : NodeA) (r : Int) (h : tree_Size_body K self54 p0 = some r) : Cn Tryz.prog 54 [aggV p0.enc] (.d (.val (.int .i64 r))) := by
 refine Cn.oz Tryz.func54 Tryz.call54 Tryz.ntmps54 Tryz.results54 fun hfit => ?_
 unfold tree_Size_body at h
 refine AW.kr [] [0] ?_
 refine AW.kr [0] [1] ?_
 refine AW.ks [0] [1, 3] ?_
 refine AW.one ?_
 refine AW.ro ?_
 refine AW.ks [] [3, 7, 8, 9] ?_
 refine AW.lm h (fun e2_0 => [(3, vI e2_0)]) (fun e2_0 => []) (fun (i1_0, i1_1) => [(3, vI i1_0), (7, vL NodeA.enc p0.kids), (8, vI (p0.kids.length : Int)), (9, vI i1_1)]) (fun (i1_0, i1_1) => []) [] (fun oJ4 again ⟨i1_0, i1_1⟩ h => ?_) fun e2_0 h => ?_
 ·try dsimp only at h
  refine AW.ro ?_
  refine AW.ks [] [3, 7, 8, 9, 10] ?_
  refine AW.one ?_
  refine AW.tt h (fun hb5 h => ?_) fun hb5 h => ?_
  ·refine AW.sk ?_
   refine AW.ks [] [3, 7, 8, 9] ?_
   refine AW.one ?_
   refine AW.block ?_
   refine AW.ro ?_
   refine bx h fun x6 h0 h1 h => ?_
   refine AW.ks [2] [3, 5, 7, 8, 9] ?_
   refine AW.rp ?_
   refine cm h (hself54 _ _) fun r8 hx9 h => ?_
   refine AW.ks [] [3, 7, 8, 9] ?_
   refine AW.rp ?_
   exact na [] h
  refine AW.ex ?_
  exact ja [] h
 refine AW.kr [] [3] ?_
 refine AW.ret ?_
 cases h; refine nz ?_; exact .same _
def tree_Size (K : Nat) (p0 : NodeA) : Option Int := iter K (fun self q => tree_Size_body K self q) p0
theorem key_tree_Size {K : Nat} (k : Nat) : (∀ (q : NodeA) (r : Int), iter k (fun self q => tree_Size_body K self q) q = some r → Cn Tryz.prog 54 [aggV q.enc] (.d (.val (.int .i64 r)))) := by
 induction k with
 | zero => exact fun q r h => by cases h
 | succ k ih => exact fun q r h => tree_Size_step K _ ih q r h
theorem tree_Size_ok {K : Nat} {p0 : NodeA} {r : Int} (h : tree_Size K p0 = some r) : Cn Tryz.prog 54 [aggV p0.enc] (.d (.val (.int .i64 r))) := (key_tree_Size K) p0 r h
/-! ### (*isochrone/subst.walker).walk -/
def subst_walker_walk_body (K : Nat) (self22 : (Subst_walkerA × NodeA) → Option (NodeA × Subst_walkerA)) (self51 : (Subst_walkerA × NodeA × Int) → Option (NodeA × Subst_walkerA)) (p0 : Subst_walkerA) (p1 : NodeA) : Option (NodeA × Subst_walkerA) := (subst_walker_stopped K p0).bind fun r1 =>
 if r1.1 then
  some ((NodeA.mk (0 : Int) (⟨#[]⟩ : ByteArray) (RatA.mk false [] []) []), r1.2)
 else
  (tree_Copy K (NodeA.mk p1.op p1.name p1.num [])).bind fun r4 =>
  ((
   ((
    if (p1.op == (33 : Int)) then
     some (p1.op == (33 : Int))
    else
     some (p1.op == (34 : Int))) : Option Bool).bind (fun v8_0 =>
   if v8_0 then
    (idx p1.kids (0 : Int)).bind fun x12 =>
    (subst_walker_guard K r1.2 x12 (Api_NamesA.mk false [p1.name])).bind fun r14 =>
    some (r14.pairs, r14.clash, r14.found, r14.great, r14.path)
   else
    ((
     if (p1.op == (12 : Int)) then
      some (p1.op == (12 : Int))
     else
      some (p1.op == (39 : Int))) : Option Bool).bind (fun v16_0 =>
    if v16_0 then
     (idx p1.kids (0 : Int)).bind fun x20 =>
     (subst_all K ).bind fun r22 =>
     (subst_walker_guard K r1.2 x20 r22).bind fun r24 =>
     some (r24.pairs, r24.clash, r24.found, r24.great, r24.path)
    else
     some (r1.2.pairs, r1.2.clash, r1.2.found, r1.2.great, r1.2.path)))) : Option ((List Api_PairA) × (List Int) × Bool × Bool × (Option (List Int)))).bind (fun (v6_0, v6_1, v6_2, v6_3, v6_4) =>
  ((iter (S := Int × (List Api_PairA) × (List Int) × Bool × Bool × (Option (List Int)) × (List NodeA)) (R := Out ((List Api_PairA) × (List Int) × Bool × Bool × (Option (List Int)) × (List NodeA)) _) K (fun again (i26_0, i26_1, i26_2, i26_3, i26_4, i26_5, i26_6) =>
   if (decide (i26_0 < (p1.kids.length : Int))) then
    ((
     (self51 ((Subst_walkerA.mk i26_1 i26_5 i26_2 i26_3 i26_4), p1, i26_0)).bind fun r33 =>
     (subst_walker_stopped K r33.2).bind fun r35 =>
     if r35.1 then
      outM (
       outM (
        some ((NodeA.mk (0 : Int) (⟨#[]⟩ : ByteArray) (RatA.mk false [] []) []), r35.2)))
     else
      ((
       ((
        if (r33.1.op == (54 : Int)) then
         (idx p1.kids i26_0).bind fun x43 =>
         some (x43.op == (56 : Int))
        else
         some false) : Option Bool).bind (fun v40_0 =>
       if v40_0 then
        (must (!r33.1.kids.isEmpty)).bind fun _ =>
        (appO 104 i26_6 r33.1.kids).bind fun l46 =>
        some l46
       else
        (appO 104 i26_6 [r33.1]).bind fun l49 =>
        some l49)) : Option (List NodeA)).bind (fun v38_0 =>
      ((
       if (i26_0 == (0 : Int)) then
        if (p1.op == (35 : Int)) then
         some true
        else
         if (p1.op == (36 : Int)) then
          some true
         else
          some (p1.op == (57 : Int))
       else
        some false) : Option Bool).bind (fun v51_0 =>
      if v51_0 then
       (idx p1.kids (1 : Int)).bind fun x57 =>
       (static_BoundOf K r33.1).bind fun r59 =>
       (subst_walker_guard K r35.2 x57 r59).bind fun r61 =>
       (subst_walker_stopped K r61).bind fun r63 =>
       if r63.1 then
        outM (
         outM (
          some ((NodeA.mk (0 : Int) (⟨#[]⟩ : ByteArray) (RatA.mk false [] []) []), r63.2)))
       else
        some (.go (r63.2.pairs, r63.2.clash, r63.2.found, r63.2.great, r63.2.path, v38_0))
      else
       some (.go (r35.2.pairs, r35.2.clash, r35.2.found, r35.2.great, r35.2.path, v38_0))))) : Option (Out ((List Api_PairA) × (List Int) × Bool × Bool × (Option (List Int)) × (List NodeA)) _)).bind (Out.fin fun (v31_0, v31_1, v31_2, v31_3, v31_4, v31_5) =>
    again (IntKind.wrap .i64 (i26_0 + (1 : Int)), v31_0, v31_1, v31_2, v31_3, v31_4, v31_5))
   else
    some (.go (i26_1, i26_2, i26_3, i26_4, i26_5, i26_6))) ((0 : Int), v6_0, v6_1, v6_2, v6_3, v6_4, r4.kids)) : Option (Out ((List Api_PairA) × (List Int) × Bool × Bool × (Option (List Int)) × (List NodeA)) _)).bind (Out.fin fun (e27_0, e27_1, e27_2, e27_3, e27_4, e27_5) =>
  ((
   if (p1.op == (59 : Int)) then
    (idx p1.kids (0 : Int)).bind fun x69 =>
    (idx e27_5 (0 : Int)).bind fun x71 =>
    (static_BoundOf K x71).bind fun r73 =>
    (subst_walker_guard K (Subst_walkerA.mk e27_0 e27_4 e27_1 e27_2 e27_3) x69 r73).bind fun r75 =>
    some (r75.pairs, r75.clash, r75.found, r75.great, e27_5, r75.path)
   else
    if (p1.op == (54 : Int)) then
     (static_BoundOf K (NodeA.mk r4.op r4.name r4.num e27_5)).bind fun r81 =>
     ((iter (S := Int × (List Api_PairA) × (List Int) × Bool × Bool × (Option (List Int))) (R := ((List Api_PairA) × (List Int) × Bool × Bool × (Option (List Int)))) K (fun again (i83_0, i83_1, i83_2, i83_3, i83_4, i83_5) =>
      if (decide (i83_0 < (p1.kids.length : Int))) then
       (idx p1.kids i83_0).bind fun x88 =>
       (subst_walker_guard K (Subst_walkerA.mk i83_1 i83_5 i83_2 i83_3 i83_4) x88 r81).bind fun r90 =>
       again (IntKind.wrap .i64 (i83_0 + (1 : Int)), r90.pairs, r90.clash, r90.found, r90.great, r90.path)
      else
       some (i83_1, i83_2, i83_3, i83_4, i83_5)) ((0 : Int), e27_0, e27_1, e27_2, e27_3, e27_4)) : Option ((List Api_PairA) × (List Int) × Bool × Bool × (Option (List Int)))).bind (fun (e84_0, e84_1, e84_2, e84_3, e84_4) =>
     some (e84_0, e84_1, e84_2, e84_3, e27_5, e84_4))
    else
     some (e27_0, e27_1, e27_2, e27_3, e27_5, e27_4)) : Option ((List Api_PairA) × (List Int) × Bool × Bool × (List NodeA) × (Option (List Int)))).bind (fun (v66_0, v66_1, v66_2, v66_3, v66_4, v66_5) =>
  (subst_walker_stopped K (Subst_walkerA.mk v66_0 v66_5 v66_1 v66_2 v66_3)).bind fun r92 =>
  if r92.1 then
   some ((NodeA.mk (0 : Int) (⟨#[]⟩ : ByteArray) (RatA.mk false [] []) []), r92.2)
  else
   (subst_walker_with K r92.2 p1).bind fun r95 =>
   if (!r95.2.1) then
    (tree_Size K (NodeA.mk r4.op r4.name r4.num v66_4)).bind fun r98 =>
    some ((NodeA.mk r4.op r4.name r4.num v66_4), (Subst_walkerA.mk r95.2.2.pairs r95.2.2.path r95.2.2.clash r95.2.2.found (decide ((16000 : Int) < r98))))
   else
    if (p1.op == (56 : Int)) then
     ((iter (S := Int × (List NodeA)) (R := (List NodeA)) K (fun again (i101_0, i101_1) =>
      if (decide (i101_0 < (r95.1.rates.length : Int))) then
       (idx r95.1.rates i101_0).bind fun x106 =>
       (tree_Copy K x106).bind fun r108 =>
       (appO 104 i101_1 [r108]).bind fun l110 =>
       again (IntKind.wrap .i64 (i101_0 + (1 : Int)), l110)
      else
       some i101_1) ((0 : Int), [])) : Option (List NodeA)).bind (fun e102_0 =>
     some ((NodeA.mk (54 : Int) (⟨#[]⟩ : ByteArray) (RatA.mk false [] []) e102_0), r95.2.2))
    else
     if ((p1.kids.length : Int) == (0 : Int)) then
      (tree_Copy K r95.1.with_).bind fun r113 =>
      some (r113, r95.2.2)
     else
      (idx v66_4 (0 : Int)).bind fun x115 =>
      (static_FreeOf K x115).bind fun r117 =>
      (subst_captured K r95.1.with_ r117).bind fun r119 =>
      if r119 then
       (subst_walker_stop K r95.2.2).bind fun r122 =>
       some ((NodeA.mk (0 : Int) (⟨#[]⟩ : ByteArray) (RatA.mk false [] []) []), r122)
      else
       (tree_Size K r95.1.with_).bind fun r124 =>
       (subst_dots K r95.1.with_).bind fun r126 =>
       (tree_Size K x115).bind fun r128 =>
       if (decide ((16000 : Int) < (IntKind.wrap .i64 (r124 + (IntKind.wrap .i64 (r126 * (IntKind.wrap .i64 (r128 - (1 : Int))))))))) then
        some ((NodeA.mk (0 : Int) (⟨#[]⟩ : ByteArray) (RatA.mk false [] []) []), (Subst_walkerA.mk r95.2.2.pairs r95.2.2.path r95.2.2.clash r95.2.2.found (decide ((16000 : Int) < (IntKind.wrap .i64 (r124 + (IntKind.wrap .i64 (r126 * (IntKind.wrap .i64 (r128 - (1 : Int)))))))))))
       else
        (subst_put K r95.1.with_ x115).bind fun r131 =>
        some (r131, (Subst_walkerA.mk r95.2.2.pairs r95.2.2.path r95.2.2.clash r95.2.2.found (decide ((16000 : Int) < (IntKind.wrap .i64 (r124 + (IntKind.wrap .i64 (r126 * (IntKind.wrap .i64 (r128 - (1 : Int))))))))))))))
abbrev oW (z : Nat) (a : List Api_PairA) (b : Option (List Int)) (c : List Int) (f g : Bool) : Option Own := some ⟨5, [[.d (slD Api_PairA.enc a), gV z 1 b, .d (slD i64V c), .d (.val (.bool f)), .d (.val (.bool g))]]⟩
abbrev oN (n : NodeA) : Option Own := some ⟨6, [[.d (.val (.int .i64 n.op)), .d (.val (.string n.name)), .d (.val (.bool n.num.neg)), .d (slD u32V n.num.num), .d (slD u32V n.num.den), .d (slD NodeA.enc n.kids)]]⟩
abbrev oK (n : NodeA) (v : V) : Option Own := some ⟨6, [[.d (.val (.int .i64 n.op)), .d (.val (.string n.name)), .d (.val (.bool n.num.neg)), .d (slD u32V n.num.num), .d (slD u32V n.num.den), v]]⟩
set_option maxHeartbeats 4000000 in
theorem subst_walker_walk_step (K : Nat) (self22 : (Subst_walkerA × NodeA) → Option (NodeA × Subst_walkerA)) (self51 : (Subst_walkerA × NodeA × Int) → Option (NodeA × Subst_walkerA)) (hself22 : ∀ (q : Subst_walkerA × NodeA) (r : NodeA × Subst_walkerA), self22 q = some r → Cm Tryz.prog 22 [.ptr 0 5 0 0, aggV q.2.enc] 1 ([oW 1 q.1.pairs q.1.path q.1.clash q.1.found q.1.great] ++ [gO i64V 1 q.1.path]) (aggV r.1.enc) ([oW 1 r.2.pairs r.2.path r.2.clash r.2.found r.2.great] ++ [gO i64V 1 r.2.path])) (hself51 : ∀ (q : Subst_walkerA × NodeA × Int) (r : NodeA × Subst_walkerA), self51 q = some r → Cm Tryz.prog 51 [.ptr 0 5 0 0, aggV q.2.1.enc, .d (.val (.int .i64 q.2.2))] 1 ([oW 1 q.1.pairs q.1.path q.1.clash q.1.found q.1.great] ++ [gO i64V 1 q.1.path]) (aggV r.1.enc) ([oW 1 r.2.pairs r.2.path r.2.clash r.2.found r.2.great] ++ [gO i64V 1 r.2.path])) (p0 : Subst_walkerA) (p1 : NodeA) (r : NodeA × Subst_walkerA) (h : subst_walker_walk_body K self22 self51 p0 p1 = some r) : Cm Tryz.prog 22 [.ptr 0 5 0 0, aggV p1.enc] 1 ([oW 1 p0.pairs p0.path p0.clash p0.found p0.great] ++ [gO i64V 1 p0.path]) (aggV r.1.enc) ([oW 1 r.2.pairs r.2.path r.2.clash r.2.found r.2.great] ++ [gO i64V 1 r.2.path]) := by
 refine Cm.ofA mixed Tryz.func22 rfl Tryz.call22 Tryz.ntmps22 Tryz.results22 (by simp) rfl rfl (by simp only [go_sem, reduceEqDiff, reduceAdd, reduceSub, reduceMul, reduceLeDiff, reduceLT, Nat.reduceBEq, reduceIte, List.length_cons]) (by simp only [go_sem, reduceEqDiff, reduceAdd, reduceSub, reduceMul, reduceLeDiff, reduceLT, Nat.reduceBEq, reduceIte]) (by simp only [go_sem, reduceEqDiff, reduceAdd, reduceSub, reduceMul, reduceLeDiff, reduceLT, Nat.reduceBEq, reduceIte]) (by simp only [go_sem, reduceEqDiff, reduceAdd, reduceSub, reduceMul, reduceLeDiff, reduceLT, Nat.reduceBEq, reduceIte]) datO_g datO_g fun hfit => ?_
 unfold subst_walker_walk_body at h
 refine AW.cu [0, 1] [(0, .ptr 0 5 0 0), (1, .agg [.d (.val (.int .i64 p1.op)), .d (.val (.string p1.name)), .d (.val (.bool p1.num.neg)), .d (slD u32V p1.num.num), .d (slD u32V p1.num.den), .d (slD NodeA.enc p1.kids)])] [oW 1 p0.pairs p0.path p0.clash p0.found p0.great, gO i64V 1 p0.path] ?_
 refine AW.op mixed ?_
 refine AW.cu [0, 1, 2, 3] [(0, .ptr 0 5 0 0), (3, .ptr 2 6 0 0), (4, .ptr 3 6 0 0)] [oW 1 p0.pairs p0.path p0.clash p0.found p0.great, gO i64V 1 p0.path, oN p1, some ⟨6, [[.d (.val (.int .i64 (0 : Int))), .d (.val (.string (⟨#[]⟩ : ByteArray))), .d (.val (.bool false)), .d (.val (.slice none 0 0)), .d (.val (.slice none 0 0)), .d (.val (.slice none 0 0))]]⟩] ?_
 refine AW.one ?_
 refine AW.op mixed ?_
 apply obindE h; intro r1 hx2 h
 have hc := nx (subst_walker_stopped_ok (h := hx2))
 refine callK_grow [0] 1 hc (by simp only [go_sem, reduceEqDiff, reduceAdd, reduceSub, reduceMul, reduceLeDiff, reduceLT, Nat.reduceBEq, reduceIte] <;> rfl) (by simp) (by simp) (by simp only [go_sem, reduceEqDiff, reduceAdd, reduceSub, reduceMul, reduceLeDiff, reduceLT, Nat.reduceBEq, reduceIte]) ?_
 try simp only [go_sem, reduceEqDiff, reduceAdd, reduceSub, reduceMul, reduceLeDiff, reduceLT, Nat.reduceBEq, reduceIte]
 refine AW.cu [0, 5, 2, 3] [(0, .ptr 0 5 0 0), (3, .ptr 2 6 0 0), (4, .ptr 3 6 0 0), (19, .d (.val (.bool r1.1)))] [oW 1 r1.2.pairs r1.2.path r1.2.clash r1.2.found r1.2.great, gO i64V 1 r1.2.path, oN p1, some ⟨6, [[.d (.val (.int .i64 (0 : Int))), .d (.val (.string (⟨#[]⟩ : ByteArray))), .d (.val (.bool false)), .d (.val (.slice none 0 0)), .d (.val (.slice none 0 0)), .d (.val (.slice none 0 0))]]⟩] ?_
 refine AW.ts r1.1 (fun hb3 => ?_) (fun hb3 => ?_)
 ·have h := ifT hb3 h
  refine AW.op mixed ?_
  refine AW.ret ?_
  obtain rfl := Option.some.inj h
  refine nz ?_
  refine EndM.mk 1 (by decide) (by simp only [go_sem, reduceEqDiff, reduceAdd, reduceSub, reduceMul, reduceLeDiff, reduceLT, Nat.reduceBEq, reduceIte]) (ns ?_)
  exact ⟨.aggL ⟨.same _, .same _, .same _, .nil, .nil, .nil, trivial⟩, ⟨⟨.same _, .same _, .same _, .same _, .same _, trivial⟩, trivial⟩⟩
 have h := ifF hb3 h
 refine AW.sk ?_
 refine AW.cu [0, 1, 2, 3] [(0, .ptr 0 5 0 0), (3, .ptr 2 6 0 0), (4, .ptr 3 6 0 0)] [oW 1 r1.2.pairs r1.2.path r1.2.clash r1.2.found r1.2.great, gO i64V 1 r1.2.path, oN p1, some ⟨6, [[.d (.val (.int .i64 (0 : Int))), .d (.val (.string (⟨#[]⟩ : ByteArray))), .d (.val (.bool false)), .d (.val (.slice none 0 0)), .d (.val (.slice none 0 0)), .d (.val (.slice none 0 0))]]⟩] ?_
 refine AW.op mixed ?_
 apply obindE h; intro r4 hx5 h
 have hc := nx (tree_Copy_own (h := hx5))
 refine callK_ownC hc ⟨.aggL ⟨.same _, .same _, .same _, .same _, .same _, .nil, trivial⟩, trivial⟩ (by simp only [go_sem, reduceEqDiff, reduceAdd, reduceSub, reduceMul, reduceLeDiff, reduceLT, Nat.reduceBEq, reduceIte]) ?_
 try simp only [go_sem, reduceEqDiff, reduceAdd, reduceSub, reduceMul, reduceLeDiff, reduceLT, Nat.reduceBEq, reduceIte]
 refine AW.cu [0, 1, 2, 3, 12, 11] [(0, .ptr 0 5 0 0), (3, .ptr 2 6 0 0), (4, .ptr 3 6 0 0), (5, .ptr 4 6 0 0)] [oW 1 r1.2.pairs r1.2.path r1.2.clash r1.2.found r1.2.great, gO i64V 1 r1.2.path, oN p1, some ⟨6, [[.d (.val (.int .i64 (0 : Int))), .d (.val (.string (⟨#[]⟩ : ByteArray))), .d (.val (.bool false)), .d (.val (.slice none 0 0)), .d (.val (.slice none 0 0)), .d (.val (.slice none 0 0))]]⟩, oK r4 (accV 5 6 ((r4.kids.map NodeA.enc).map (·.map .d))), accO 6 ((r4.kids.map NodeA.enc).map (·.map .d))] ?_
 refine AW.one ?_
 refine obindE h fun oJ7 h hJ7 => ?_
 refine AW.join (S := (List Api_PairA) × (List Int) × Bool × Bool × (Option (List Int))) (fun (v6_0, v6_1, v6_2, v6_3, v6_4) => [(0, .ptr 0 5 0 0), (3, .ptr 1 6 0 0), (4, .ptr 2 6 0 0), (5, .ptr 3 6 0 0)]) (fun (v6_0, v6_1, v6_2, v6_3, v6_4) => [oW 4 v6_0 v6_4 v6_1 v6_2 v6_3, oN p1, some ⟨6, [[.d (.val (.int .i64 (0 : Int))), .d (.val (.string (⟨#[]⟩ : ByteArray))), .d (.val (.bool false)), .d (.val (.slice none 0 0)), .d (.val (.slice none 0 0)), .d (.val (.slice none 0 0))]]⟩, oK r4 (accV 5 6 ((r4.kids.map NodeA.enc).map (·.map .d))), gO i64V 1 v6_4, accO 6 ((r4.kids.map NodeA.enc).map (·.map .d))]) (fun x => x = oJ7) ?_ ?_
 ·skip
  refine AW.op mixed ?_
  refine AW.cu [0, 1, 2, 3, 4, 5] [(0, .ptr 0 5 0 0), (3, .ptr 2 6 0 0), (4, .ptr 3 6 0 0), (5, .ptr 4 6 0 0), (30, .d (.val (.int .i64 p1.op)))] [oW 1 r1.2.pairs r1.2.path r1.2.clash r1.2.found r1.2.great, gO i64V 1 r1.2.path, oN p1, some ⟨6, [[.d (.val (.int .i64 (0 : Int))), .d (.val (.string (⟨#[]⟩ : ByteArray))), .d (.val (.bool false)), .d (.val (.slice none 0 0)), .d (.val (.slice none 0 0)), .d (.val (.slice none 0 0))]]⟩, oK r4 (accV 5 6 ((r4.kids.map NodeA.enc).map (·.map .d))), accO 6 ((r4.kids.map NodeA.enc).map (·.map .d))] ?_
  refine AW.block ?_
  refine AW.one ?_
  refine obindE h fun oJ9 h hJ9 => ?_
  refine AW.join (S := Bool) (fun v8_0 => [(0, .ptr 0 5 0 0), (3, .ptr 1 6 0 0), (4, .ptr 2 6 0 0), (5, .ptr 3 6 0 0), (30, .d (.val (.int .i64 p1.op))), (31, .d (.val (.bool v8_0)))]) (fun v8_0 => [oW 4 r1.2.pairs r1.2.path r1.2.clash r1.2.found r1.2.great, oN p1, some ⟨6, [[.d (.val (.int .i64 (0 : Int))), .d (.val (.string (⟨#[]⟩ : ByteArray))), .d (.val (.bool false)), .d (.val (.slice none 0 0)), .d (.val (.slice none 0 0)), .d (.val (.slice none 0 0))]]⟩, oK r4 (accV 5 6 ((r4.kids.map NodeA.enc).map (·.map .d))), gO i64V 1 r1.2.path, accO 6 ((r4.kids.map NodeA.enc).map (·.map .d))]) (fun x => x = oJ9) ?_ ?_
  ·skip
   refine AW.op mixed ?_
   refine AW.cu [0, 1, 2, 3, 4, 5] [(0, .ptr 0 5 0 0), (3, .ptr 2 6 0 0), (4, .ptr 3 6 0 0), (5, .ptr 4 6 0 0), (30, .d (.val (.int .i64 p1.op))), (31, .d (.val (.bool (p1.op == (33 : Int)))))] [oW 1 r1.2.pairs r1.2.path r1.2.clash r1.2.found r1.2.great, gO i64V 1 r1.2.path, oN p1, some ⟨6, [[.d (.val (.int .i64 (0 : Int))), .d (.val (.string (⟨#[]⟩ : ByteArray))), .d (.val (.bool false)), .d (.val (.slice none 0 0)), .d (.val (.slice none 0 0)), .d (.val (.slice none 0 0))]]⟩, oK r4 (accV 5 6 ((r4.kids.map NodeA.enc).map (·.map .d))), accO 6 ((r4.kids.map NodeA.enc).map (·.map .d))] ?_
   refine AW.ts (p1.op == (33 : Int)) (fun hb10 => ?_) (fun hb10 => ?_)
   ·have h := ifT hb10 h
    refine AW.sk ?_
    exact JoinQ.ar (p1.op == (33 : Int)) [0, 2, 3, 4, 1, 5] (Option.some.inj h)
   have h := ifF hb10 h
   refine AW.rg mixed ?_
   exact JoinQ.ar (p1.op == (34 : Int)) [0, 2, 3, 4, 1, 5] (Option.some.inj h)
  rintro v8_0 rfl
  have h := hJ9
  try dsimp only [Out.fin] at h
  refine nz ?_
  refine AW.ts v8_0 (fun hb11 => ?_) (fun hb11 => ?_)
  ·have h := ifT hb11 h
   refine AW.reg3 mixed (by kernel_rfl) ?_
   try simp only [go_sem, reduceEqDiff, reduceAdd, reduceSub, reduceMul, reduceLeDiff, reduceLT, Nat.reduceBEq, reduceIte]
   apply obindE h; intro x12 hx13 h
   try simp only [go_sem, reduceEqDiff, reduceAdd, reduceSub, reduceMul, reduceLeDiff, reduceLT, Nat.reduceBEq, reduceIte, (idx_some hx13).1, (idx_some hx13).2]
   apply obindE h; intro r14 hx15 h
   have hc := nx (subst_walker_guard_ok (h := hx15))
   refine callK_grow [0] 4 hc (by simp only [go_sem, reduceEqDiff, reduceAdd, reduceSub, reduceMul, reduceLeDiff, reduceLT, Nat.reduceBEq, reduceIte] <;> rfl) (by simp) (by simp) (by simp only [go_sem, reduceEqDiff, reduceAdd, reduceSub, reduceMul, reduceLeDiff, reduceLT, Nat.reduceBEq, reduceIte, (idx_some hx13).1, (idx_some hx13).2]) ?_
   try simp only [go_sem, reduceEqDiff, reduceAdd, reduceSub, reduceMul, reduceLeDiff, reduceLT, Nat.reduceBEq, reduceIte, (idx_some hx13).1, (idx_some hx13).2]
   refine JoinQ.mk (r14.pairs, r14.clash, r14.found, r14.great, r14.path) [0, 1, 2, 3, 15, 5] (Option.some.inj h) (by simp only [go_sem, reduceEqDiff, reduceAdd, reduceSub, reduceMul, reduceLeDiff, reduceLT, Nat.reduceBEq, reduceIte, (idx_some hx13).1, (idx_some hx13).2])
  have h := ifF hb11 h
  refine AW.one ?_
  refine obindE h fun oJ17 h hJ17 => ?_
  refine AW.join (S := Bool) (fun v16_0 => [(0, .ptr 0 5 0 0), (3, .ptr 1 6 0 0), (4, .ptr 2 6 0 0), (5, .ptr 3 6 0 0), (44, .d (.val (.bool v16_0)))]) (fun v16_0 => [oW 4 r1.2.pairs r1.2.path r1.2.clash r1.2.found r1.2.great, oN p1, some ⟨6, [[.d (.val (.int .i64 (0 : Int))), .d (.val (.string (⟨#[]⟩ : ByteArray))), .d (.val (.bool false)), .d (.val (.slice none 0 0)), .d (.val (.slice none 0 0)), .d (.val (.slice none 0 0))]]⟩, oK r4 (accV 5 6 ((r4.kids.map NodeA.enc).map (·.map .d))), gO i64V 1 r1.2.path, accO 6 ((r4.kids.map NodeA.enc).map (·.map .d))]) (fun x => x = oJ17) ?_ ?_
  ·skip
   refine AW.op mixed ?_
   refine AW.cu [0, 4, 1, 2, 3, 5] [(0, .ptr 0 5 0 0), (3, .ptr 2 6 0 0), (4, .ptr 3 6 0 0), (5, .ptr 4 6 0 0), (30, .d (.val (.int .i64 p1.op))), (44, .d (.val (.bool (p1.op == (12 : Int)))))] [oW 1 r1.2.pairs r1.2.path r1.2.clash r1.2.found r1.2.great, gO i64V 1 r1.2.path, oN p1, some ⟨6, [[.d (.val (.int .i64 (0 : Int))), .d (.val (.string (⟨#[]⟩ : ByteArray))), .d (.val (.bool false)), .d (.val (.slice none 0 0)), .d (.val (.slice none 0 0)), .d (.val (.slice none 0 0))]]⟩, oK r4 (accV 5 6 ((r4.kids.map NodeA.enc).map (·.map .d))), accO 6 ((r4.kids.map NodeA.enc).map (·.map .d))] ?_
   refine AW.ts (p1.op == (12 : Int)) (fun hb18 => ?_) (fun hb18 => ?_)
   ·have h := ifT hb18 h
    refine AW.sk ?_
    exact JoinQ.ar (p1.op == (12 : Int)) [0, 2, 3, 4, 1, 5] (Option.some.inj h)
   have h := ifF hb18 h
   refine AW.rg mixed ?_
   exact JoinQ.ar (p1.op == (39 : Int)) [0, 2, 3, 4, 1, 5] (Option.some.inj h)
  rintro v16_0 rfl
  have h := hJ17
  try dsimp only [Out.fin] at h
  refine nz ?_
  refine AW.ts v16_0 (fun hb19 => ?_) (fun hb19 => ?_)
  ·have h := ifT hb19 h
   refine AW.reg3 mixed (by kernel_rfl) ?_
   try simp only [go_sem, reduceEqDiff, reduceAdd, reduceSub, reduceMul, reduceLeDiff, reduceLT, Nat.reduceBEq, reduceIte]
   apply obindE h; intro x20 hx21 h
   try simp only [go_sem, reduceEqDiff, reduceAdd, reduceSub, reduceMul, reduceLeDiff, reduceLT, Nat.reduceBEq, reduceIte, (idx_some hx21).1, (idx_some hx21).2]
   apply obindE h; intro r22 hx23 h
   have hc := nx (subst_all_ok (h := hx23))
   refine pcallK_intro hc (by simp only [go_sem, reduceEqDiff, reduceAdd, reduceSub, reduceMul, reduceLeDiff, reduceLT, Nat.reduceBEq, reduceIte]) ?_
   try simp only [go_sem, reduceEqDiff, reduceAdd, reduceSub, reduceMul, reduceLeDiff, reduceLT, Nat.reduceBEq, reduceIte, (idx_some hx21).1, (idx_some hx21).2]
   apply obindE h; intro r24 hx25 h
   have hc := nx (subst_walker_guard_ok (h := hx25))
   refine callK_grow [0] 4 hc (by simp only [go_sem, reduceEqDiff, reduceAdd, reduceSub, reduceMul, reduceLeDiff, reduceLT, Nat.reduceBEq, reduceIte] <;> rfl) (by simp) (by simp) (by simp only [go_sem, reduceEqDiff, reduceAdd, reduceSub, reduceMul, reduceLeDiff, reduceLT, Nat.reduceBEq, reduceIte, (idx_some hx21).1, (idx_some hx21).2]) ?_
   try simp only [go_sem, reduceEqDiff, reduceAdd, reduceSub, reduceMul, reduceLeDiff, reduceLT, Nat.reduceBEq, reduceIte, (idx_some hx21).1, (idx_some hx21).2]
   refine JoinQ.mk (r24.pairs, r24.clash, r24.found, r24.great, r24.path) [0, 1, 2, 3, 12, 5] (Option.some.inj h) (by simp only [go_sem, reduceEqDiff, reduceAdd, reduceSub, reduceMul, reduceLeDiff, reduceLT, Nat.reduceBEq, reduceIte, (idx_some hx21).1, (idx_some hx21).2])
  have h := ifF hb19 h
  refine AW.sk ?_
  exact JoinQ.ar (r1.2.pairs, r1.2.clash, r1.2.found, r1.2.great, r1.2.path) [0, 1, 2, 3, 4, 5] (Option.some.inj h)
 rintro ⟨v6_0, v6_1, v6_2, v6_3, v6_4⟩ rfl
 have h := hJ7
 try dsimp only [Out.fin] at h
 refine nz ?_
 refine AW.one ?_
 refine AW.op mixed ?_
 refine AW.cu [0, 4, 1, 2, 3, 5] [(0, .ptr 0 5 0 0), (3, .ptr 2 6 0 0), (4, .ptr 3 6 0 0), (5, .ptr 4 6 0 0), (56, .d (.val (.int .i64 (p1.kids.length : Int)))), (57, .d (.val (.int .i64 (0 : Int))))] [oW 1 v6_0 v6_4 v6_1 v6_2 v6_3, gO i64V 1 v6_4, oN p1, some ⟨6, [[.d (.val (.int .i64 (0 : Int))), .d (.val (.string (⟨#[]⟩ : ByteArray))), .d (.val (.bool false)), .d (.val (.slice none 0 0)), .d (.val (.slice none 0 0)), .d (.val (.slice none 0 0))]]⟩, oK r4 (accV 5 6 ((r4.kids.map NodeA.enc).map (·.map .d))), accO 6 ((r4.kids.map NodeA.enc).map (·.map .d))] ?_
 refine obindE h fun oJ29 h hJ29 => ?_
 refine AW.join (S := (List Api_PairA) × (List Int) × Bool × Bool × (Option (List Int)) × (List NodeA)) (fun (e27_0, e27_1, e27_2, e27_3, e27_4, e27_5) => [(0, .ptr 0 5 0 0), (3, .ptr 1 6 0 0), (4, .ptr 2 6 0 0), (5, .ptr 3 6 0 0)]) (fun (e27_0, e27_1, e27_2, e27_3, e27_4, e27_5) => [oW 4 e27_0 e27_4 e27_1 e27_2 e27_3, oN p1, some ⟨6, [[.d (.val (.int .i64 (0 : Int))), .d (.val (.string (⟨#[]⟩ : ByteArray))), .d (.val (.bool false)), .d (.val (.slice none 0 0)), .d (.val (.slice none 0 0)), .d (.val (.slice none 0 0))]]⟩, oK r4 (accV 5 6 ((e27_5.map NodeA.enc).map (·.map .d))), gO i64V 1 e27_4, accO 6 ((e27_5.map NodeA.enc).map (·.map .d))]) (fun x => oJ29 = .go x) ?_ ?_
 ·refine AW.block ?_
  refine AW.iter (S := Int × (List Api_PairA) × (List Int) × Bool × Bool × (Option (List Int)) × (List NodeA)) (fun (i26_0, i26_1, i26_2, i26_3, i26_4, i26_5, i26_6) => [(0, .ptr 0 5 0 0), (3, .ptr 1 6 0 0), (4, .ptr 2 6 0 0), (5, .ptr 3 6 0 0), (56, .d (.val (.int .i64 (p1.kids.length : Int)))), (57, .d (.val (.int .i64 i26_0)))]) (fun (i26_0, i26_1, i26_2, i26_3, i26_4, i26_5, i26_6) => [oW 4 i26_1 i26_5 i26_2 i26_3 i26_4, oN p1, some ⟨6, [[.d (.val (.int .i64 (0 : Int))), .d (.val (.string (⟨#[]⟩ : ByteArray))), .d (.val (.bool false)), .d (.val (.slice none 0 0)), .d (.val (.slice none 0 0)), .d (.val (.slice none 0 0))]]⟩, oK r4 (accV 5 6 ((i26_6.map NodeA.enc).map (·.map .d))), gO i64V 1 i26_5, accO 6 ((i26_6.map NodeA.enc).map (·.map .d))]) [0, 2, 3, 4, 1, 5] h (by simp only [go_sem, reduceEqDiff, reduceAdd, reduceSub, reduceMul, reduceLeDiff, reduceLT, Nat.reduceBEq, reduceIte]) ?_
  rintro again ⟨i26_0, i26_1, i26_2, i26_3, i26_4, i26_5, i26_6⟩ h
  try dsimp only at h
  refine AW.op mixed ?_
  refine AW.cu [0, 4, 1, 2, 3, 5] [(0, .ptr 0 5 0 0), (3, .ptr 2 6 0 0), (4, .ptr 3 6 0 0), (5, .ptr 4 6 0 0), (56, .d (.val (.int .i64 (p1.kids.length : Int)))), (57, .d (.val (.int .i64 i26_0))), (58, .d (.val (.bool (decide (i26_0 < (p1.kids.length : Int))))))] [oW 1 i26_1 i26_5 i26_2 i26_3 i26_4, gO i64V 1 i26_5, oN p1, some ⟨6, [[.d (.val (.int .i64 (0 : Int))), .d (.val (.string (⟨#[]⟩ : ByteArray))), .d (.val (.bool false)), .d (.val (.slice none 0 0)), .d (.val (.slice none 0 0)), .d (.val (.slice none 0 0))]]⟩, oK r4 (accV 5 6 ((i26_6.map NodeA.enc).map (·.map .d))), accO 6 ((i26_6.map NodeA.enc).map (·.map .d))] ?_
  refine AW.one ?_
  refine AW.ts (decide (i26_0 < (p1.kids.length : Int))) (fun hb30 => ?_) (fun hb30 => ?_)
  ·have h := ifT hb30 h
   refine AW.sk ?_
   refine AW.cu [0, 1, 2, 3, 4, 5] [(0, .ptr 0 5 0 0), (3, .ptr 2 6 0 0), (4, .ptr 3 6 0 0), (5, .ptr 4 6 0 0), (56, .d (.val (.int .i64 (p1.kids.length : Int)))), (57, .d (.val (.int .i64 i26_0)))] [oW 1 i26_1 i26_5 i26_2 i26_3 i26_4, gO i64V 1 i26_5, oN p1, some ⟨6, [[.d (.val (.int .i64 (0 : Int))), .d (.val (.string (⟨#[]⟩ : ByteArray))), .d (.val (.bool false)), .d (.val (.slice none 0 0)), .d (.val (.slice none 0 0)), .d (.val (.slice none 0 0))]]⟩, oK r4 (accV 5 6 ((i26_6.map NodeA.enc).map (·.map .d))), accO 6 ((i26_6.map NodeA.enc).map (·.map .d))] ?_
   refine AW.one ?_
   refine obindE h fun oJ32 h hJ32 => ?_
   refine AW.join (S := (List Api_PairA) × (List Int) × Bool × Bool × (Option (List Int)) × (List NodeA)) (fun (v31_0, v31_1, v31_2, v31_3, v31_4, v31_5) => [(0, .ptr 0 5 0 0), (3, .ptr 1 6 0 0), (4, .ptr 2 6 0 0), (5, .ptr 3 6 0 0), (56, .d (.val (.int .i64 (p1.kids.length : Int)))), (57, .d (.val (.int .i64 i26_0)))]) (fun (v31_0, v31_1, v31_2, v31_3, v31_4, v31_5) => [oW 4 v31_0 v31_4 v31_1 v31_2 v31_3, oN p1, some ⟨6, [[.d (.val (.int .i64 (0 : Int))), .d (.val (.string (⟨#[]⟩ : ByteArray))), .d (.val (.bool false)), .d (.val (.slice none 0 0)), .d (.val (.slice none 0 0)), .d (.val (.slice none 0 0))]]⟩, oK r4 (accV 5 6 ((v31_5.map NodeA.enc).map (·.map .d))), gO i64V 1 v31_4, accO 6 ((v31_5.map NodeA.enc).map (·.map .d))]) (fun x => oJ32 = .go x) ?_ ?_
   ·skip
    refine AW.block ?_
    refine AW.op mixed ?_
    refine AW.cu [0, 1, 2, 3, 4, 5] [(0, .ptr 0 5 0 0), (3, .ptr 2 6 0 0), (4, .ptr 3 6 0 0), (5, .ptr 4 6 0 0), (6, .d (.val (.int .i64 i26_0))), (56, .d (.val (.int .i64 (p1.kids.length : Int)))), (57, .d (.val (.int .i64 i26_0)))] [oW 1 i26_1 i26_5 i26_2 i26_3 i26_4, gO i64V 1 i26_5, oN p1, some ⟨6, [[.d (.val (.int .i64 (0 : Int))), .d (.val (.string (⟨#[]⟩ : ByteArray))), .d (.val (.bool false)), .d (.val (.slice none 0 0)), .d (.val (.slice none 0 0)), .d (.val (.slice none 0 0))]]⟩, oK r4 (accV 5 6 ((i26_6.map NodeA.enc).map (·.map .d))), accO 6 ((i26_6.map NodeA.enc).map (·.map .d))] ?_
    refine AW.op mixed ?_
    apply obindE h; intro r33 hx34 h
    have hc := nx (hself51 _ _ hx34)
    refine callK_grow [0] 1 hc (by simp only [go_sem, reduceEqDiff, reduceAdd, reduceSub, reduceMul, reduceLeDiff, reduceLT, Nat.reduceBEq, reduceIte] <;> rfl) (by simp) (by simp) (by simp only [go_sem, reduceEqDiff, reduceAdd, reduceSub, reduceMul, reduceLeDiff, reduceLT, Nat.reduceBEq, reduceIte]) ?_
    try simp only [go_sem, reduceEqDiff, reduceAdd, reduceSub, reduceMul, reduceLeDiff, reduceLT, Nat.reduceBEq, reduceIte]
    refine AW.cu [0, 9, 2, 3, 4, 5, 10] [(0, .ptr 0 5 0 0), (3, .ptr 2 6 0 0), (4, .ptr 3 6 0 0), (5, .ptr 4 6 0 0), (6, .d (.val (.int .i64 i26_0))), (7, .ptr 6 6 0 0), (56, .d (.val (.int .i64 (p1.kids.length : Int)))), (57, .d (.val (.int .i64 i26_0)))] [oW 1 r33.2.pairs r33.2.path r33.2.clash r33.2.found r33.2.great, gO i64V 1 r33.2.path, oN p1, some ⟨6, [[.d (.val (.int .i64 (0 : Int))), .d (.val (.string (⟨#[]⟩ : ByteArray))), .d (.val (.bool false)), .d (.val (.slice none 0 0)), .d (.val (.slice none 0 0)), .d (.val (.slice none 0 0))]]⟩, oK r4 (accV 5 6 ((i26_6.map NodeA.enc).map (·.map .d))), accO 6 ((i26_6.map NodeA.enc).map (·.map .d)), oN r33.1] ?_
    refine AW.one ?_
    refine AW.op mixed ?_
    apply obindE h; intro r35 hx36 h
    have hc := nx (subst_walker_stopped_ok (h := hx36))
    refine callK_grow [0] 1 hc (by simp only [go_sem, reduceEqDiff, reduceAdd, reduceSub, reduceMul, reduceLeDiff, reduceLT, Nat.reduceBEq, reduceIte] <;> rfl) (by simp) (by simp) (by simp only [go_sem, reduceEqDiff, reduceAdd, reduceSub, reduceMul, reduceLeDiff, reduceLT, Nat.reduceBEq, reduceIte]) ?_
    try simp only [go_sem, reduceEqDiff, reduceAdd, reduceSub, reduceMul, reduceLeDiff, reduceLT, Nat.reduceBEq, reduceIte]
    refine AW.cu [0, 8, 2, 3, 4, 5, 6] [(0, .ptr 0 5 0 0), (3, .ptr 2 6 0 0), (4, .ptr 3 6 0 0), (5, .ptr 4 6 0 0), (6, .d (.val (.int .i64 i26_0))), (7, .ptr 6 6 0 0), (56, .d (.val (.int .i64 (p1.kids.length : Int)))), (57, .d (.val (.int .i64 i26_0))), (65, .d (.val (.bool r35.1)))] [oW 1 r35.2.pairs r35.2.path r35.2.clash r35.2.found r35.2.great, gO i64V 1 r35.2.path, oN p1, some ⟨6, [[.d (.val (.int .i64 (0 : Int))), .d (.val (.string (⟨#[]⟩ : ByteArray))), .d (.val (.bool false)), .d (.val (.slice none 0 0)), .d (.val (.slice none 0 0)), .d (.val (.slice none 0 0))]]⟩, oK r4 (accV 5 6 ((i26_6.map NodeA.enc).map (·.map .d))), accO 6 ((i26_6.map NodeA.enc).map (·.map .d)), oN r33.1] ?_
    refine AW.ts r35.1 (fun hb37 => ?_) (fun hb37 => ?_)
    ·have h := ifT hb37 h
     refine AW.op mixed ?_
     refine AW.ret ?_
     obtain ⟨_, h, ho⟩ := outM_some h
     rw [ho, Out.fin_out] at hJ32
     have h := h.trans hJ32
     obtain ⟨_, h, ho⟩ := outM_some h
     rw [ho, Out.fin_out] at hJ29
     have h := h.trans hJ29
     obtain rfl := Option.some.inj h
     refine nz ?_
     refine EndM.mk 1 (by decide) (by simp only [go_sem, reduceEqDiff, reduceAdd, reduceSub, reduceMul, reduceLeDiff, reduceLT, Nat.reduceBEq, reduceIte]) (ns ?_)
     exact ⟨.aggL ⟨.same _, .same _, .same _, .nil, .nil, .nil, trivial⟩, ⟨⟨.same _, .same _, .same _, .same _, .same _, trivial⟩, trivial⟩⟩
    have h := ifF hb37 h
    refine AW.sk ?_
    refine AW.cu [0, 1, 2, 3, 4, 5, 6] [(0, .ptr 0 5 0 0), (3, .ptr 2 6 0 0), (4, .ptr 3 6 0 0), (5, .ptr 4 6 0 0), (6, .d (.val (.int .i64 i26_0))), (7, .ptr 6 6 0 0), (56, .d (.val (.int .i64 (p1.kids.length : Int)))), (57, .d (.val (.int .i64 i26_0)))] [oW 1 r35.2.pairs r35.2.path r35.2.clash r35.2.found r35.2.great, gO i64V 1 r35.2.path, oN p1, some ⟨6, [[.d (.val (.int .i64 (0 : Int))), .d (.val (.string (⟨#[]⟩ : ByteArray))), .d (.val (.bool false)), .d (.val (.slice none 0 0)), .d (.val (.slice none 0 0)), .d (.val (.slice none 0 0))]]⟩, oK r4 (accV 5 6 ((i26_6.map NodeA.enc).map (·.map .d))), accO 6 ((i26_6.map NodeA.enc).map (·.map .d)), oN r33.1] ?_
    refine AW.one ?_
    refine obindE h fun oJ39 h hJ39 => ?_
    refine AW.join (S := (List NodeA)) (fun v38_0 => [(0, .ptr 0 5 0 0), (3, .ptr 1 6 0 0), (4, .ptr 2 6 0 0), (5, .ptr 3 6 0 0), (6, .d (.val (.int .i64 i26_0))), (7, .ptr 4 6 0 0), (56, .d (.val (.int .i64 (p1.kids.length : Int)))), (57, .d (.val (.int .i64 i26_0)))]) (fun v38_0 => [oW 5 r35.2.pairs r35.2.path r35.2.clash r35.2.found r35.2.great, oN p1, some ⟨6, [[.d (.val (.int .i64 (0 : Int))), .d (.val (.string (⟨#[]⟩ : ByteArray))), .d (.val (.bool false)), .d (.val (.slice none 0 0)), .d (.val (.slice none 0 0)), .d (.val (.slice none 0 0))]]⟩, oK r4 (accV 6 6 ((v38_0.map NodeA.enc).map (·.map .d))), oN r33.1, gO i64V 1 r35.2.path, accO 6 ((v38_0.map NodeA.enc).map (·.map .d))]) (fun x => x = oJ39) ?_ ?_
    ·skip
     refine AW.one ?_
     refine obindE h fun oJ41 h hJ41 => ?_
     refine AW.join (S := Bool) (fun v40_0 => [(0, .ptr 0 5 0 0), (3, .ptr 1 6 0 0), (4, .ptr 2 6 0 0), (5, .ptr 3 6 0 0), (6, .d (.val (.int .i64 i26_0))), (7, .ptr 4 6 0 0), (56, .d (.val (.int .i64 (p1.kids.length : Int)))), (57, .d (.val (.int .i64 i26_0))), (78, .d (.val (.bool v40_0)))]) (fun v40_0 => [oW 5 r35.2.pairs r35.2.path r35.2.clash r35.2.found r35.2.great, oN p1, some ⟨6, [[.d (.val (.int .i64 (0 : Int))), .d (.val (.string (⟨#[]⟩ : ByteArray))), .d (.val (.bool false)), .d (.val (.slice none 0 0)), .d (.val (.slice none 0 0)), .d (.val (.slice none 0 0))]]⟩, oK r4 (accV 6 6 ((i26_6.map NodeA.enc).map (·.map .d))), oN r33.1, gO i64V 1 r35.2.path, accO 6 ((i26_6.map NodeA.enc).map (·.map .d))]) (fun x => x = oJ41) ?_ ?_
     ·skip
      refine AW.rg mixed ?_
      refine splitK_intro (fun hb42 => ?_) (fun hb42 => ?_)
      ·have h := ifT hb42 h
       apply obindE h; intro x43 hx44 h
       try simp only [go_sem, reduceEqDiff, reduceAdd, reduceSub, reduceMul, reduceLeDiff, reduceLT, Nat.reduceBEq, reduceIte, hb42, (idx_some hx44).1, (idx_some hx44).2]
       refine JoinQ.mk (x43.op == (56 : Int)) [0, 2, 3, 4, 6, 1, 5] (Option.some.inj h) (by simp only [go_sem, reduceEqDiff, reduceAdd, reduceSub, reduceMul, reduceLeDiff, reduceLT, Nat.reduceBEq, reduceIte, hb42, (idx_some hx44).1, (idx_some hx44).2])
      have h := ifF hb42 h
      try simp only [go_sem, reduceEqDiff, reduceAdd, reduceSub, reduceMul, reduceLeDiff, reduceLT, Nat.reduceBEq, reduceIte, hb42]
      refine JoinQ.mk false [0, 2, 3, 4, 6, 1, 5] (Option.some.inj h) (by simp only [go_sem, reduceEqDiff, reduceAdd, reduceSub, reduceMul, reduceLeDiff, reduceLT, Nat.reduceBEq, reduceIte, hb42])
     rintro v40_0 rfl
     have h := hJ41
     try dsimp only [Out.fin] at h
     refine nz ?_
     refine AW.ts v40_0 (fun hb45 => ?_) (fun hb45 => ?_)
     ·have h := ifT hb45 h
      refine AW.rg mixed ?_
      apply obindE h; intro _ hx48 h
      apply obindE h; intro l46 hx47 h
      refine appG (f := NodeA.enc) hx47 rfl (by simp only [go_sem, reduceEqDiff, reduceAdd, reduceSub, reduceMul, reduceLeDiff, reduceLT, Nat.reduceBEq, reduceIte]) (by simp only [go_sem, reduceEqDiff, reduceAdd, reduceSub, reduceMul, reduceLeDiff, reduceLT, Nat.reduceBEq, reduceIte]) (by simp only [go_sem, reduceEqDiff, reduceAdd, reduceSub, reduceMul, reduceLeDiff, reduceLT, Nat.reduceBEq, reduceIte]) (must_ne0 hx48) ?_
      try simp only [go_sem, reduceEqDiff, reduceAdd, reduceSub, reduceMul, reduceLeDiff, reduceLT, Nat.reduceBEq, reduceIte]
      exact JoinQ.ar l46 [0, 1, 2, 3, 4, 5, 11] (Option.some.inj h)
     have h := ifF hb45 h
     refine AW.rg mixed ?_
     apply obindE h; intro l49 hx50 h
     refine appG hx50 rfl (by simp only [go_sem, reduceEqDiff, reduceAdd, reduceSub, reduceMul, reduceLeDiff, reduceLT, Nat.reduceBEq, reduceIte]) (by simp only [go_sem, reduceEqDiff, reduceAdd, reduceSub, reduceMul, reduceLeDiff, reduceLT, Nat.reduceBEq, reduceIte]) (by simp only [go_sem, reduceEqDiff, reduceAdd, reduceSub, reduceMul, reduceLeDiff, reduceLT, Nat.reduceBEq, reduceIte]) (by simp) ?_
     try simp only [go_sem, reduceEqDiff, reduceAdd, reduceSub, reduceMul, reduceLeDiff, reduceLT, Nat.reduceBEq, reduceIte]
     exact JoinQ.ar l49 [0, 1, 2, 3, 4, 5, 11] (Option.some.inj h)
    rintro v38_0 rfl
    have h := hJ39
    try dsimp only [Out.fin] at h
    refine nz ?_
    refine AW.one ?_
    refine obindE h fun oJ52 h hJ52 => ?_
    refine AW.join (S := Bool) (fun v51_0 => [(0, .ptr 0 5 0 0), (3, .ptr 1 6 0 0), (4, .ptr 2 6 0 0), (5, .ptr 3 6 0 0), (7, .ptr 4 6 0 0), (56, .d (.val (.int .i64 (p1.kids.length : Int)))), (57, .d (.val (.int .i64 i26_0))), (107, .d (.val (.bool v51_0)))]) (fun v51_0 => [oW 5 r35.2.pairs r35.2.path r35.2.clash r35.2.found r35.2.great, oN p1, some ⟨6, [[.d (.val (.int .i64 (0 : Int))), .d (.val (.string (⟨#[]⟩ : ByteArray))), .d (.val (.bool false)), .d (.val (.slice none 0 0)), .d (.val (.slice none 0 0)), .d (.val (.slice none 0 0))]]⟩, oK r4 (accV 6 6 ((v38_0.map NodeA.enc).map (·.map .d))), oN r33.1, gO i64V 1 r35.2.path, accO 6 ((v38_0.map NodeA.enc).map (·.map .d))]) (fun x => x = oJ52) ?_ ?_
    ·skip
     refine AW.rg mixed ?_
     refine splitK_intro (fun hb53 => ?_) (fun hb53 => ?_)
     ·have h := ifT hb53 h
      try simp only [go_sem, reduceEqDiff, reduceAdd, reduceSub, reduceMul, reduceLeDiff, reduceLT, Nat.reduceBEq, reduceIte, hb53]
      refine splitK_intro (fun hb54 => ?_) (fun hb54 => ?_)
      ·have h := ifT hb54 h
       try simp only [go_sem, reduceEqDiff, reduceAdd, reduceSub, reduceMul, reduceLeDiff, reduceLT, Nat.reduceBEq, reduceIte, hb53, hb54]
       refine JoinQ.mk true [0, 1, 2, 3, 4, 5, 6] (Option.some.inj h) (by simp only [go_sem, reduceEqDiff, reduceAdd, reduceSub, reduceMul, reduceLeDiff, reduceLT, Nat.reduceBEq, reduceIte, hb53, hb54])
      have h := ifF hb54 h
      try simp only [go_sem, reduceEqDiff, reduceAdd, reduceSub, reduceMul, reduceLeDiff, reduceLT, Nat.reduceBEq, reduceIte, hb53, hb54]
      refine splitK_intro (fun hb55 => ?_) (fun hb55 => ?_)
      ·have h := ifT hb55 h
       try simp only [go_sem, reduceEqDiff, reduceAdd, reduceSub, reduceMul, reduceLeDiff, reduceLT, Nat.reduceBEq, reduceIte, hb53, hb54, hb55]
       refine JoinQ.mk true [0, 1, 2, 3, 4, 5, 6] (Option.some.inj h) (by simp only [go_sem, reduceEqDiff, reduceAdd, reduceSub, reduceMul, reduceLeDiff, reduceLT, Nat.reduceBEq, reduceIte, hb53, hb54, hb55])
      have h := ifF hb55 h
      try simp only [go_sem, reduceEqDiff, reduceAdd, reduceSub, reduceMul, reduceLeDiff, reduceLT, Nat.reduceBEq, reduceIte, hb53, hb54, hb55]
      refine JoinQ.mk (p1.op == (57 : Int)) [0, 1, 2, 3, 4, 5, 6] (Option.some.inj h) (by simp only [go_sem, reduceEqDiff, reduceAdd, reduceSub, reduceMul, reduceLeDiff, reduceLT, Nat.reduceBEq, reduceIte, hb53, hb54, hb55])
     have h := ifF hb53 h
     try simp only [go_sem, reduceEqDiff, reduceAdd, reduceSub, reduceMul, reduceLeDiff, reduceLT, Nat.reduceBEq, reduceIte, hb53]
     refine JoinQ.mk false [0, 1, 2, 3, 4, 5, 6] (Option.some.inj h) (by simp only [go_sem, reduceEqDiff, reduceAdd, reduceSub, reduceMul, reduceLeDiff, reduceLT, Nat.reduceBEq, reduceIte, hb53])
    rintro v51_0 rfl
    have h := hJ52
    try dsimp only [Out.fin] at h
    refine nz ?_
    refine AW.ts v51_0 (fun hb56 => ?_) (fun hb56 => ?_)
    ·have h := ifT hb56 h
     refine AW.one ?_
     refine AW.reg3 mixed (by kernel_rfl) ?_
     try simp only [go_sem, reduceEqDiff, reduceAdd, reduceSub, reduceMul, reduceLeDiff, reduceLT, Nat.reduceBEq, reduceIte]
     apply obindE h; intro x57 hx58 h
     try simp only [go_sem, reduceEqDiff, reduceAdd, reduceSub, reduceMul, reduceLeDiff, reduceLT, Nat.reduceBEq, reduceIte, (idx_some hx58).1, (idx_some hx58).2]
     apply obindE h; intro r59 hx60 h
     have hc := nx (static_BoundOf_ok (h := hx60))
     refine pcallK_intro hc (by simp only [go_sem, reduceEqDiff, reduceAdd, reduceSub, reduceMul, reduceLeDiff, reduceLT, Nat.reduceBEq, reduceIte]) ?_
     try simp only [go_sem, reduceEqDiff, reduceAdd, reduceSub, reduceMul, reduceLeDiff, reduceLT, Nat.reduceBEq, reduceIte, (idx_some hx58).1, (idx_some hx58).2]
     apply obindE h; intro r61 hx62 h
     have hc := nx (subst_walker_guard_ok (h := hx62))
     refine callK_grow [0] 5 hc (by simp only [go_sem, reduceEqDiff, reduceAdd, reduceSub, reduceMul, reduceLeDiff, reduceLT, Nat.reduceBEq, reduceIte] <;> rfl) (by simp) (by simp) (by simp only [go_sem, reduceEqDiff, reduceAdd, reduceSub, reduceMul, reduceLeDiff, reduceLT, Nat.reduceBEq, reduceIte, (idx_some hx58).1, (idx_some hx58).2]) ?_
     try simp only [go_sem, reduceEqDiff, reduceAdd, reduceSub, reduceMul, reduceLeDiff, reduceLT, Nat.reduceBEq, reduceIte, (idx_some hx58).1, (idx_some hx58).2]
     refine AW.cut [0, 14, 1, 2, 3, 6] [(0, .ptr 0 5 0 0), (3, .ptr 2 6 0 0), (4, .ptr 3 6 0 0), (5, .ptr 4 6 0 0), (56, .d (.val (.int .i64 (p1.kids.length : Int)))), (57, .d (.val (.int .i64 i26_0)))] [oW 1 r61.pairs r61.path r61.clash r61.found r61.great, gO i64V 1 r61.path, oN p1, some ⟨6, [[.d (.val (.int .i64 (0 : Int))), .d (.val (.string (⟨#[]⟩ : ByteArray))), .d (.val (.bool false)), .d (.val (.slice none 0 0)), .d (.val (.slice none 0 0)), .d (.val (.slice none 0 0))]]⟩, oK r4 (accV 5 6 ((v38_0.map NodeA.enc).map (·.map .d))), accO 6 ((v38_0.map NodeA.enc).map (·.map .d))] (by simp only [go_sem, reduceEqDiff, reduceAdd, reduceSub, reduceMul, reduceLeDiff, reduceLT, Nat.reduceBEq, reduceIte, (idx_some hx58).1, (idx_some hx58).2]) ?_
     refine AW.op mixed ?_
     apply obindE h; intro r63 hx64 h
     have hc := nx (subst_walker_stopped_ok (h := hx64))
     refine callK_grow [0] 1 hc (by simp only [go_sem, reduceEqDiff, reduceAdd, reduceSub, reduceMul, reduceLeDiff, reduceLT, Nat.reduceBEq, reduceIte] <;> rfl) (by simp) (by simp) (by simp only [go_sem, reduceEqDiff, reduceAdd, reduceSub, reduceMul, reduceLeDiff, reduceLT, Nat.reduceBEq, reduceIte]) ?_
     try simp only [go_sem, reduceEqDiff, reduceAdd, reduceSub, reduceMul, reduceLeDiff, reduceLT, Nat.reduceBEq, reduceIte]
     refine AW.cu [0, 7, 2, 3, 4, 5] [(0, .ptr 0 5 0 0), (3, .ptr 2 6 0 0), (4, .ptr 3 6 0 0), (5, .ptr 4 6 0 0), (56, .d (.val (.int .i64 (p1.kids.length : Int)))), (57, .d (.val (.int .i64 i26_0))), (117, .d (.val (.bool r63.1)))] [oW 1 r63.2.pairs r63.2.path r63.2.clash r63.2.found r63.2.great, gO i64V 1 r63.2.path, oN p1, some ⟨6, [[.d (.val (.int .i64 (0 : Int))), .d (.val (.string (⟨#[]⟩ : ByteArray))), .d (.val (.bool false)), .d (.val (.slice none 0 0)), .d (.val (.slice none 0 0)), .d (.val (.slice none 0 0))]]⟩, oK r4 (accV 5 6 ((v38_0.map NodeA.enc).map (·.map .d))), accO 6 ((v38_0.map NodeA.enc).map (·.map .d))] ?_
     refine AW.ts r63.1 (fun hb65 => ?_) (fun hb65 => ?_)
     ·have h := ifT hb65 h
      refine AW.op mixed ?_
      refine AW.ret ?_
      obtain ⟨_, h, ho⟩ := outM_some h
      rw [ho, Out.fin_out] at hJ32
      have h := h.trans hJ32
      obtain ⟨_, h, ho⟩ := outM_some h
      rw [ho, Out.fin_out] at hJ29
      have h := h.trans hJ29
      obtain rfl := Option.some.inj h
      refine nz ?_
      refine EndM.mk 1 (by decide) (by simp only [go_sem, reduceEqDiff, reduceAdd, reduceSub, reduceMul, reduceLeDiff, reduceLT, Nat.reduceBEq, reduceIte]) (ns ?_)
      exact ⟨.aggL ⟨.same _, .same _, .same _, .nil, .nil, .nil, trivial⟩, ⟨⟨.same _, .same _, .same _, .same _, .same _, trivial⟩, trivial⟩⟩
     have h := ifF hb65 h
     refine AW.sk ?_
     exact JoinQ.ar (r63.2.pairs, r63.2.clash, r63.2.found, r63.2.great, r63.2.path, v38_0) [0, 2, 3, 4, 1, 5] (Option.some.inj h).symm
    have h := ifF hb56 h
    refine AW.sk ?_
    exact JoinQ.ar (r35.2.pairs, r35.2.clash, r35.2.found, r35.2.great, r35.2.path, v38_0) [0, 1, 2, 3, 5, 6] (Option.some.inj h).symm
   rintro ⟨v31_0, v31_1, v31_2, v31_3, v31_4, v31_5⟩ rfl
   have h := hJ32
   try dsimp only [Out.fin] at h
   refine nz ?_
   refine AW.rg mixed ?_
   exact NextQ.ar (IntKind.wrap .i64 (i26_0 + (1 : Int)), v31_0, v31_1, v31_2, v31_3, v31_4, v31_5) [0, 1, 2, 3, 4, 5] h
  have h := ifF hb30 h
  refine AW.ex ?_
  exact JoinQ.ar (i26_1, i26_2, i26_3, i26_4, i26_5, i26_6) [0, 2, 3, 4, 1, 5] (Option.some.inj h).symm
 rintro ⟨e27_0, e27_1, e27_2, e27_3, e27_4, e27_5⟩ rfl
 have h := hJ29
 try dsimp only [Out.fin] at h
 refine nz ?_
 refine AW.cu [0, 4, 1, 2, 3, 5] [(0, .ptr 0 5 0 0), (3, .ptr 2 6 0 0), (4, .ptr 3 6 0 0), (5, .ptr 4 6 0 0)] [oW 1 e27_0 e27_4 e27_1 e27_2 e27_3, gO i64V 1 e27_4, oN p1, some ⟨6, [[.d (.val (.int .i64 (0 : Int))), .d (.val (.string (⟨#[]⟩ : ByteArray))), .d (.val (.bool false)), .d (.val (.slice none 0 0)), .d (.val (.slice none 0 0)), .d (.val (.slice none 0 0))]]⟩, oK r4 (accV 5 6 ((e27_5.map NodeA.enc).map (·.map .d))), accO 6 ((e27_5.map NodeA.enc).map (·.map .d))] ?_
 refine AW.one ?_
 refine obindE h fun oJ67 h hJ67 => ?_
 refine AW.join (S := (List Api_PairA) × (List Int) × Bool × Bool × (List NodeA) × (Option (List Int))) (fun (v66_0, v66_1, v66_2, v66_3, v66_4, v66_5) => [(0, .ptr 0 5 0 0), (3, .ptr 1 6 0 0), (4, .ptr 2 6 0 0), (5, .ptr 3 6 0 0)]) (fun (v66_0, v66_1, v66_2, v66_3, v66_4, v66_5) => [oW 4 v66_0 v66_5 v66_1 v66_2 v66_3, oN p1, some ⟨6, [[.d (.val (.int .i64 (0 : Int))), .d (.val (.string (⟨#[]⟩ : ByteArray))), .d (.val (.bool false)), .d (.val (.slice none 0 0)), .d (.val (.slice none 0 0)), .d (.val (.slice none 0 0))]]⟩, some ⟨6, [[.d (.val (.int .i64 r4.op)), .d (.val (.string r4.name)), .d (.val (.bool r4.num.neg)), .d (slD u32V r4.num.num), .d (slD u32V r4.num.den), .d (slD NodeA.enc v66_4)]]⟩, gO i64V 1 v66_5]) (fun x => x = oJ67) ?_ ?_
 ·skip
  refine AW.op mixed ?_
  refine AW.cu [0, 1, 2, 3, 4, 5] [(0, .ptr 0 5 0 0), (3, .ptr 2 6 0 0), (4, .ptr 3 6 0 0), (5, .ptr 4 6 0 0), (121, .d (.val (.int .i64 p1.op)))] [oW 1 e27_0 e27_4 e27_1 e27_2 e27_3, gO i64V 1 e27_4, oN p1, some ⟨6, [[.d (.val (.int .i64 (0 : Int))), .d (.val (.string (⟨#[]⟩ : ByteArray))), .d (.val (.bool false)), .d (.val (.slice none 0 0)), .d (.val (.slice none 0 0)), .d (.val (.slice none 0 0))]]⟩, oK r4 (accV 5 6 ((e27_5.map NodeA.enc).map (·.map .d))), accO 6 ((e27_5.map NodeA.enc).map (·.map .d))] ?_
  refine AW.block ?_
  refine AW.op mixed ?_
  refine AW.cu [0, 1, 2, 3, 4, 5] [(0, .ptr 0 5 0 0), (3, .ptr 2 6 0 0), (4, .ptr 3 6 0 0), (5, .ptr 4 6 0 0), (121, .d (.val (.int .i64 p1.op))), (122, .d (.val (.bool (p1.op == (59 : Int)))))] [oW 1 e27_0 e27_4 e27_1 e27_2 e27_3, gO i64V 1 e27_4, oN p1, some ⟨6, [[.d (.val (.int .i64 (0 : Int))), .d (.val (.string (⟨#[]⟩ : ByteArray))), .d (.val (.bool false)), .d (.val (.slice none 0 0)), .d (.val (.slice none 0 0)), .d (.val (.slice none 0 0))]]⟩, oK r4 (accV 5 6 ((e27_5.map NodeA.enc).map (·.map .d))), accO 6 ((e27_5.map NodeA.enc).map (·.map .d))] ?_
  refine AW.ts (p1.op == (59 : Int)) (fun hb68 => ?_) (fun hb68 => ?_)
  ·have h := ifT hb68 h
   refine AW.reg3 mixed (by kernel_rfl) ?_
   try simp only [go_sem, reduceEqDiff, reduceAdd, reduceSub, reduceMul, reduceLeDiff, reduceLT, Nat.reduceBEq, reduceIte]
   apply obindE h; intro x69 hx70 h
   try simp only [go_sem, reduceEqDiff, reduceAdd, reduceSub, reduceMul, reduceLeDiff, reduceLT, Nat.reduceBEq, reduceIte, (idx_some hx70).1, (idx_some hx70).2]
   apply obindE h; intro x71 hx72 h
   try simp only [go_sem, reduceEqDiff, reduceAdd, reduceSub, reduceMul, reduceLeDiff, reduceLT, Nat.reduceBEq, reduceIte, (idx_some hx70).1, (idx_some hx70).2, (idx_some hx72).1, idx_lt hx72, (idx_some hx72).2, accV_idx hx72, accO_idx hx72]
   apply obindE h; intro r73 hx74 h
   have hc := nx (static_BoundOf_ok (h := hx74))
   refine pcallK_intro hc (by simp only [go_sem, reduceEqDiff, reduceAdd, reduceSub, reduceMul, reduceLeDiff, reduceLT, Nat.reduceBEq, reduceIte]) ?_
   try simp only [go_sem, reduceEqDiff, reduceAdd, reduceSub, reduceMul, reduceLeDiff, reduceLT, Nat.reduceBEq, reduceIte, (idx_some hx70).1, (idx_some hx70).2, (idx_some hx72).1, idx_lt hx72, (idx_some hx72).2, accV_idx hx72, accO_idx hx72]
   apply obindE h; intro r75 hx76 h
   have hc := nx (subst_walker_guard_ok (h := hx76))
   refine callK_grow [0] 1 hc (by simp only [go_sem, reduceEqDiff, reduceAdd, reduceSub, reduceMul, reduceLeDiff, reduceLT, Nat.reduceBEq, reduceIte] <;> rfl) (by simp) (by simp) (by simp only [go_sem, reduceEqDiff, reduceAdd, reduceSub, reduceMul, reduceLeDiff, reduceLT, Nat.reduceBEq, reduceIte, (idx_some hx70).1, (idx_some hx70).2, (idx_some hx72).1, idx_lt hx72, (idx_some hx72).2, accV_idx hx72, accO_idx hx72]) ?_
   try simp only [go_sem, reduceEqDiff, reduceAdd, reduceSub, reduceMul, reduceLeDiff, reduceLT, Nat.reduceBEq, reduceIte, (idx_some hx70).1, (idx_some hx70).2, (idx_some hx72).1, idx_lt hx72, (idx_some hx72).2, accV_idx hx72, accO_idx hx72]
   refine JoinQ.mkS (r75.pairs, r75.clash, r75.found, r75.great, e27_5, r75.path) [0, 2, 3, 4, 16] [5] [] [(4, ⟨6, [[.d (.val (.int .i64 r4.op)), .d (.val (.string r4.name)), .d (.val (.bool r4.num.neg)), .d (slD u32V r4.num.num), .d (slD u32V r4.num.den), .d (slD NodeA.enc e27_5)]]⟩)] (Option.some.inj h) (by simp only [go_sem, reduceEqDiff, reduceAdd, reduceSub, reduceMul, reduceLeDiff, reduceLT, Nat.reduceBEq, reduceIte, (idx_some hx70).1, (idx_some hx70).2, (idx_some hx72).1, idx_lt hx72, (idx_some hx72).2, accV_idx hx72, accO_idx hx72, sealL_cons, sealL_nil]) (by simp only [go_sem, reduceEqDiff, reduceAdd, reduceSub, reduceMul, reduceLeDiff, reduceLT, Nat.reduceBEq, reduceIte, (idx_some hx70).1, (idx_some hx70).2, (idx_some hx72).1, idx_lt hx72, (idx_some hx72).2, accV_idx hx72, accO_idx hx72, sealH_cons, sealH_nil]; exact ⟨⟨.same _, .same _, .same _, .same _, .same _, (by first | exact sealAcc (by simp only [go_sem, reduceEqDiff, reduceAdd, reduceSub, reduceMul, reduceLeDiff, reduceLT, Nat.reduceBEq, reduceIte]) | exact sealArr (by simp only [go_sem, reduceEqDiff, reduceAdd, reduceSub, reduceMul, reduceLeDiff, reduceLT, Nat.reduceBEq, reduceIte, (idx_some hx70).1, (idx_some hx70).2, (idx_some hx72).1, idx_lt hx72, (idx_some hx72).2, accV_idx hx72, accO_idx hx72])), trivial⟩, trivial⟩) (by simp only [go_sem, reduceEqDiff, reduceAdd, reduceSub, reduceMul, reduceLeDiff, reduceLT, Nat.reduceBEq, reduceIte, (idx_some hx70).1, (idx_some hx70).2, (idx_some hx72).1, idx_lt hx72, (idx_some hx72).2, accV_idx hx72, accO_idx hx72])
  have h := ifF hb68 h
  refine AW.op mixed ?_
  refine AW.cutS [0, 1, 2, 3, 4] [5] [] [(4, ⟨6, [[.d (.val (.int .i64 r4.op)), .d (.val (.string r4.name)), .d (.val (.bool r4.num.neg)), .d (slD u32V r4.num.num), .d (slD u32V r4.num.den), .d (slD NodeA.enc e27_5)]]⟩)] [(0, .ptr 0 5 0 0), (3, .ptr 2 6 0 0), (4, .ptr 3 6 0 0), (5, .ptr 4 6 0 0), (135, .d (.val (.bool (p1.op == (54 : Int)))))] [oW 1 e27_0 e27_4 e27_1 e27_2 e27_3, gO i64V 1 e27_4, oN p1, some ⟨6, [[.d (.val (.int .i64 (0 : Int))), .d (.val (.string (⟨#[]⟩ : ByteArray))), .d (.val (.bool false)), .d (.val (.slice none 0 0)), .d (.val (.slice none 0 0)), .d (.val (.slice none 0 0))]]⟩, some ⟨6, [[.d (.val (.int .i64 r4.op)), .d (.val (.string r4.name)), .d (.val (.bool r4.num.neg)), .d (slD u32V r4.num.num), .d (slD u32V r4.num.den), .d (slD NodeA.enc e27_5)]]⟩] (by simp only [go_sem, reduceEqDiff, reduceAdd, reduceSub, reduceMul, reduceLeDiff, reduceLT, Nat.reduceBEq, reduceIte, sealL_cons, sealL_nil]) (by simp only [go_sem, reduceEqDiff, reduceAdd, reduceSub, reduceMul, reduceLeDiff, reduceLT, Nat.reduceBEq, reduceIte, sealH_cons, sealH_nil]; exact ⟨⟨.same _, .same _, .same _, .same _, .same _, sealAcc (by simp only [go_sem, reduceEqDiff, reduceAdd, reduceSub, reduceMul, reduceLeDiff, reduceLT, Nat.reduceBEq, reduceIte]), trivial⟩, trivial⟩) (by simp only [go_sem, reduceEqDiff, reduceAdd, reduceSub, reduceMul, reduceLeDiff, reduceLT, Nat.reduceBEq, reduceIte]) ?_
  refine AW.ts (p1.op == (54 : Int)) (fun hb80 => ?_) (fun hb80 => ?_)
  ·have h := ifT hb80 h
   refine AW.op mixed ?_
   apply obindE h; intro r81 hx82 h
   have hc := nx (static_BoundOf_ok (h := hx82))
   refine callP hc ?_
   refine AW.cu [0, 1, 2, 3, 4, 7] [(0, .ptr 0 5 0 0), (3, .ptr 2 6 0 0), (4, .ptr 3 6 0 0), (5, .ptr 4 6 0 0), (8, .ptr 5 2 0 0)] [oW 1 e27_0 e27_4 e27_1 e27_2 e27_3, gO i64V 1 e27_4, oN p1, some ⟨6, [[.d (.val (.int .i64 (0 : Int))), .d (.val (.string (⟨#[]⟩ : ByteArray))), .d (.val (.bool false)), .d (.val (.slice none 0 0)), .d (.val (.slice none 0 0)), .d (.val (.slice none 0 0))]]⟩, some ⟨6, [[.d (.val (.int .i64 r4.op)), .d (.val (.string r4.name)), .d (.val (.bool r4.num.neg)), .d (slD u32V r4.num.num), .d (slD u32V r4.num.den), .d (slD NodeA.enc e27_5)]]⟩, some ⟨2, [[.d (.val (.bool r81.all)), .d (slD strV r81.list)]]⟩] ?_
   refine AW.op mixed ?_
   refine AW.cu [0, 1, 2, 3, 4, 5] [(0, .ptr 0 5 0 0), (3, .ptr 2 6 0 0), (4, .ptr 3 6 0 0), (5, .ptr 4 6 0 0), (8, .ptr 5 2 0 0), (140, .d (slD NodeA.enc p1.kids)), (141, .d (.val (.int .i64 (p1.kids.length : Int)))), (142, .d (.val (.int .i64 (0 : Int))))] [oW 1 e27_0 e27_4 e27_1 e27_2 e27_3, gO i64V 1 e27_4, oN p1, some ⟨6, [[.d (.val (.int .i64 (0 : Int))), .d (.val (.string (⟨#[]⟩ : ByteArray))), .d (.val (.bool false)), .d (.val (.slice none 0 0)), .d (.val (.slice none 0 0)), .d (.val (.slice none 0 0))]]⟩, some ⟨6, [[.d (.val (.int .i64 r4.op)), .d (.val (.string r4.name)), .d (.val (.bool r4.num.neg)), .d (slD u32V r4.num.num), .d (slD u32V r4.num.den), .d (slD NodeA.enc e27_5)]]⟩, some ⟨2, [[.d (.val (.bool r81.all)), .d (slD strV r81.list)]]⟩] ?_
   refine obindE h fun oJ86 h hJ86 => ?_
   refine AW.join (S := (List Api_PairA) × (List Int) × Bool × Bool × (Option (List Int))) (fun (e84_0, e84_1, e84_2, e84_3, e84_4) => [(0, .ptr 0 5 0 0), (3, .ptr 1 6 0 0), (4, .ptr 2 6 0 0), (5, .ptr 3 6 0 0)]) (fun (e84_0, e84_1, e84_2, e84_3, e84_4) => [oW 4 e84_0 e84_4 e84_1 e84_2 e84_3, oN p1, some ⟨6, [[.d (.val (.int .i64 (0 : Int))), .d (.val (.string (⟨#[]⟩ : ByteArray))), .d (.val (.bool false)), .d (.val (.slice none 0 0)), .d (.val (.slice none 0 0)), .d (.val (.slice none 0 0))]]⟩, some ⟨6, [[.d (.val (.int .i64 r4.op)), .d (.val (.string r4.name)), .d (.val (.bool r4.num.neg)), .d (slD u32V r4.num.num), .d (slD u32V r4.num.den), .d (slD NodeA.enc e27_5)]]⟩, gO i64V 1 e84_4]) (fun x => x = oJ86) ?_ ?_
   ·refine AW.block ?_
    refine AW.iter (S := Int × (List Api_PairA) × (List Int) × Bool × Bool × (Option (List Int))) (fun (i83_0, i83_1, i83_2, i83_3, i83_4, i83_5) => [(0, .ptr 0 5 0 0), (3, .ptr 1 6 0 0), (4, .ptr 2 6 0 0), (5, .ptr 3 6 0 0), (8, .ptr 4 2 0 0), (140, .d (slD NodeA.enc p1.kids)), (141, .d (.val (.int .i64 (p1.kids.length : Int)))), (142, .d (.val (.int .i64 i83_0)))]) (fun (i83_0, i83_1, i83_2, i83_3, i83_4, i83_5) => [oW 5 i83_1 i83_5 i83_2 i83_3 i83_4, oN p1, some ⟨6, [[.d (.val (.int .i64 (0 : Int))), .d (.val (.string (⟨#[]⟩ : ByteArray))), .d (.val (.bool false)), .d (.val (.slice none 0 0)), .d (.val (.slice none 0 0)), .d (.val (.slice none 0 0))]]⟩, some ⟨6, [[.d (.val (.int .i64 r4.op)), .d (.val (.string r4.name)), .d (.val (.bool r4.num.neg)), .d (slD u32V r4.num.num), .d (slD u32V r4.num.den), .d (slD NodeA.enc e27_5)]]⟩, some ⟨2, [[.d (.val (.bool r81.all)), .d (slD strV r81.list)]]⟩, gO i64V 1 i83_5]) [0, 2, 3, 4, 5, 1] h (by simp only [go_sem, reduceEqDiff, reduceAdd, reduceSub, reduceMul, reduceLeDiff, reduceLT, Nat.reduceBEq, reduceIte]) ?_
    rintro again ⟨i83_0, i83_1, i83_2, i83_3, i83_4, i83_5⟩ h
    try dsimp only at h
    refine AW.op mixed ?_
    refine AW.cu [0, 5, 1, 2, 3, 4] [(0, .ptr 0 5 0 0), (3, .ptr 2 6 0 0), (4, .ptr 3 6 0 0), (5, .ptr 4 6 0 0), (8, .ptr 5 2 0 0), (140, .d (slD NodeA.enc p1.kids)), (141, .d (.val (.int .i64 (p1.kids.length : Int)))), (142, .d (.val (.int .i64 i83_0))), (143, .d (.val (.bool (decide (i83_0 < (p1.kids.length : Int))))))] [oW 1 i83_1 i83_5 i83_2 i83_3 i83_4, gO i64V 1 i83_5, oN p1, some ⟨6, [[.d (.val (.int .i64 (0 : Int))), .d (.val (.string (⟨#[]⟩ : ByteArray))), .d (.val (.bool false)), .d (.val (.slice none 0 0)), .d (.val (.slice none 0 0)), .d (.val (.slice none 0 0))]]⟩, some ⟨6, [[.d (.val (.int .i64 r4.op)), .d (.val (.string r4.name)), .d (.val (.bool r4.num.neg)), .d (slD u32V r4.num.num), .d (slD u32V r4.num.den), .d (slD NodeA.enc e27_5)]]⟩, some ⟨2, [[.d (.val (.bool r81.all)), .d (slD strV r81.list)]]⟩] ?_
    refine AW.one ?_
    refine AW.ts (decide (i83_0 < (p1.kids.length : Int))) (fun hb87 => ?_) (fun hb87 => ?_)
    ·have h := ifT hb87 h
     refine AW.sk ?_
     refine AW.cu [0, 1, 2, 3, 4, 5] [(0, .ptr 0 5 0 0), (3, .ptr 2 6 0 0), (4, .ptr 3 6 0 0), (5, .ptr 4 6 0 0), (8, .ptr 5 2 0 0), (140, .d (slD NodeA.enc p1.kids)), (141, .d (.val (.int .i64 (p1.kids.length : Int)))), (142, .d (.val (.int .i64 i83_0)))] [oW 1 i83_1 i83_5 i83_2 i83_3 i83_4, gO i64V 1 i83_5, oN p1, some ⟨6, [[.d (.val (.int .i64 (0 : Int))), .d (.val (.string (⟨#[]⟩ : ByteArray))), .d (.val (.bool false)), .d (.val (.slice none 0 0)), .d (.val (.slice none 0 0)), .d (.val (.slice none 0 0))]]⟩, some ⟨6, [[.d (.val (.int .i64 r4.op)), .d (.val (.string r4.name)), .d (.val (.bool r4.num.neg)), .d (slD u32V r4.num.num), .d (slD u32V r4.num.den), .d (slD NodeA.enc e27_5)]]⟩, some ⟨2, [[.d (.val (.bool r81.all)), .d (slD strV r81.list)]]⟩] ?_
     refine AW.one ?_
     refine AW.block ?_
     refine AW.one ?_
     refine AW.reg mixed (by kernel_rfl) ?_
     apply obindE h; intro x88 hx89 h
     try simp only [go_sem, reduceEqDiff, reduceAdd, reduceSub, reduceMul, reduceLeDiff, reduceLT, Nat.reduceBEq, reduceIte, (idx_some hx89).1, (idx_some hx89).2]
     refine AW.cut [0, 1, 2, 3, 4, 5, 8] [(0, .ptr 0 5 0 0), (3, .ptr 2 6 0 0), (4, .ptr 3 6 0 0), (5, .ptr 4 6 0 0), (8, .ptr 5 2 0 0), (10, .ptr 6 6 0 0), (140, .d (slD NodeA.enc p1.kids)), (141, .d (.val (.int .i64 (p1.kids.length : Int)))), (142, .d (.val (.int .i64 i83_0)))] [oW 1 i83_1 i83_5 i83_2 i83_3 i83_4, gO i64V 1 i83_5, oN p1, some ⟨6, [[.d (.val (.int .i64 (0 : Int))), .d (.val (.string (⟨#[]⟩ : ByteArray))), .d (.val (.bool false)), .d (.val (.slice none 0 0)), .d (.val (.slice none 0 0)), .d (.val (.slice none 0 0))]]⟩, some ⟨6, [[.d (.val (.int .i64 r4.op)), .d (.val (.string r4.name)), .d (.val (.bool r4.num.neg)), .d (slD u32V r4.num.num), .d (slD u32V r4.num.den), .d (slD NodeA.enc e27_5)]]⟩, some ⟨2, [[.d (.val (.bool r81.all)), .d (slD strV r81.list)]]⟩, oN x88] (by simp only [go_sem, reduceEqDiff, reduceAdd, reduceSub, reduceMul, reduceLeDiff, reduceLT, Nat.reduceBEq, reduceIte, (idx_some hx89).1, (idx_some hx89).2]) ?_
     refine AW.rg mixed ?_
     apply obindE h; intro r90 hx91 h
     have hc := nx (subst_walker_guard_ok (h := hx91))
     refine callK_grow [0] 1 hc (by simp only [go_sem, reduceEqDiff, reduceAdd, reduceSub, reduceMul, reduceLeDiff, reduceLT, Nat.reduceBEq, reduceIte] <;> rfl) (by simp) (by simp) (by simp only [go_sem, reduceEqDiff, reduceAdd, reduceSub, reduceMul, reduceLeDiff, reduceLT, Nat.reduceBEq, reduceIte]) ?_
     try simp only [go_sem, reduceEqDiff, reduceAdd, reduceSub, reduceMul, reduceLeDiff, reduceLT, Nat.reduceBEq, reduceIte]
     refine AW.cu [0, 10, 2, 3, 4, 5] [(0, .ptr 0 5 0 0), (3, .ptr 2 6 0 0), (4, .ptr 3 6 0 0), (5, .ptr 4 6 0 0), (8, .ptr 5 2 0 0), (140, .d (slD NodeA.enc p1.kids)), (141, .d (.val (.int .i64 (p1.kids.length : Int)))), (142, .d (.val (.int .i64 i83_0)))] [oW 1 r90.pairs r90.path r90.clash r90.found r90.great, gO i64V 1 r90.path, oN p1, some ⟨6, [[.d (.val (.int .i64 (0 : Int))), .d (.val (.string (⟨#[]⟩ : ByteArray))), .d (.val (.bool false)), .d (.val (.slice none 0 0)), .d (.val (.slice none 0 0)), .d (.val (.slice none 0 0))]]⟩, some ⟨6, [[.d (.val (.int .i64 r4.op)), .d (.val (.string r4.name)), .d (.val (.bool r4.num.neg)), .d (slD u32V r4.num.num), .d (slD u32V r4.num.den), .d (slD NodeA.enc e27_5)]]⟩, some ⟨2, [[.d (.val (.bool r81.all)), .d (slD strV r81.list)]]⟩] ?_
     refine AW.rg mixed ?_
     exact NextQ.ar (IntKind.wrap .i64 (i83_0 + (1 : Int)), r90.pairs, r90.clash, r90.found, r90.great, r90.path) [0, 2, 3, 4, 5, 1] h
    have h := ifF hb87 h
    refine AW.ex ?_
    exact JoinQ.ar (i83_1, i83_2, i83_3, i83_4, i83_5) [0, 2, 3, 4, 1] (Option.some.inj h)
   rintro ⟨e84_0, e84_1, e84_2, e84_3, e84_4⟩ rfl
   have h := hJ86
   try dsimp only [Out.fin] at h
   refine nz ?_
   exact JoinQ.ar (e84_0, e84_1, e84_2, e84_3, e27_5, e84_4) [0, 1, 2, 3, 4] (Option.some.inj h)
  have h := ifF hb80 h
  refine AW.sk ?_
  exact JoinQ.ar (e27_0, e27_1, e27_2, e27_3, e27_5, e27_4) [0, 2, 3, 4, 1] (Option.some.inj h)
 rintro ⟨v66_0, v66_1, v66_2, v66_3, v66_4, v66_5⟩ rfl
 have h := hJ67
 try dsimp only [Out.fin] at h
 refine nz ?_
 refine AW.one ?_
 refine AW.op mixed ?_
 apply obindE h; intro r92 hx93 h
 have hc := nx (subst_walker_stopped_ok (h := hx93))
 refine callK_grow [0] 4 hc (by simp only [go_sem, reduceEqDiff, reduceAdd, reduceSub, reduceMul, reduceLeDiff, reduceLT, Nat.reduceBEq, reduceIte] <;> rfl) (by simp) (by simp) (by simp only [go_sem, reduceEqDiff, reduceAdd, reduceSub, reduceMul, reduceLeDiff, reduceLT, Nat.reduceBEq, reduceIte]) ?_
 try simp only [go_sem, reduceEqDiff, reduceAdd, reduceSub, reduceMul, reduceLeDiff, reduceLT, Nat.reduceBEq, reduceIte]
 refine AW.cu [0, 6, 1, 2, 3] [(0, .ptr 0 5 0 0), (3, .ptr 2 6 0 0), (4, .ptr 3 6 0 0), (5, .ptr 4 6 0 0), (152, .d (.val (.bool r92.1)))] [oW 1 r92.2.pairs r92.2.path r92.2.clash r92.2.found r92.2.great, gO i64V 1 r92.2.path, oN p1, some ⟨6, [[.d (.val (.int .i64 (0 : Int))), .d (.val (.string (⟨#[]⟩ : ByteArray))), .d (.val (.bool false)), .d (.val (.slice none 0 0)), .d (.val (.slice none 0 0)), .d (.val (.slice none 0 0))]]⟩, some ⟨6, [[.d (.val (.int .i64 r4.op)), .d (.val (.string r4.name)), .d (.val (.bool r4.num.neg)), .d (slD u32V r4.num.num), .d (slD u32V r4.num.den), .d (slD NodeA.enc v66_4)]]⟩] ?_
 refine AW.ts r92.1 (fun hb94 => ?_) (fun hb94 => ?_)
 ·have h := ifT hb94 h
  refine AW.op mixed ?_
  refine AW.ret ?_
  obtain rfl := Option.some.inj h
  refine nz ?_
  refine EndM.mk 1 (by decide) (by simp only [go_sem, reduceEqDiff, reduceAdd, reduceSub, reduceMul, reduceLeDiff, reduceLT, Nat.reduceBEq, reduceIte]) (ns ?_)
  exact ⟨.aggL ⟨.same _, .same _, .same _, .nil, .nil, .nil, trivial⟩, ⟨⟨.same _, .same _, .same _, .same _, .same _, trivial⟩, trivial⟩⟩
 have h := ifF hb94 h
 refine AW.sk ?_
 refine AW.cu [0, 1, 2, 3, 4] [(0, .ptr 0 5 0 0), (3, .ptr 2 6 0 0), (4, .ptr 3 6 0 0), (5, .ptr 4 6 0 0)] [oW 1 r92.2.pairs r92.2.path r92.2.clash r92.2.found r92.2.great, gO i64V 1 r92.2.path, oN p1, some ⟨6, [[.d (.val (.int .i64 (0 : Int))), .d (.val (.string (⟨#[]⟩ : ByteArray))), .d (.val (.bool false)), .d (.val (.slice none 0 0)), .d (.val (.slice none 0 0)), .d (.val (.slice none 0 0))]]⟩, some ⟨6, [[.d (.val (.int .i64 r4.op)), .d (.val (.string r4.name)), .d (.val (.bool r4.num.neg)), .d (slD u32V r4.num.num), .d (slD u32V r4.num.den), .d (slD NodeA.enc v66_4)]]⟩] ?_
 refine AW.op mixed ?_
 apply obindE h; intro r95 hx96 h
 have hc := nx (subst_walker_with_ok (h := hx96))
 refine callK_grow [0] 1 hc (by simp only [go_sem, reduceEqDiff, reduceAdd, reduceSub, reduceMul, reduceLeDiff, reduceLT, Nat.reduceBEq, reduceIte] <;> rfl) (by simp) (by simp) (by simp only [go_sem, reduceEqDiff, reduceAdd, reduceSub, reduceMul, reduceLeDiff, reduceLT, Nat.reduceBEq, reduceIte]) ?_
 try simp only [go_sem, reduceEqDiff, reduceAdd, reduceSub, reduceMul, reduceLeDiff, reduceLT, Nat.reduceBEq, reduceIte]
 refine AW.cu [0, 7, 2, 3, 4, 11] [(0, .ptr 0 5 0 0), (3, .ptr 2 6 0 0), (4, .ptr 3 6 0 0), (5, .ptr 4 6 0 0), (11, .ptr 5 13 0 0), (12, .d (.val (.bool r95.2.1)))] [oW 1 r95.2.2.pairs r95.2.2.path r95.2.2.clash r95.2.2.found r95.2.2.great, gO i64V 1 r95.2.2.path, oN p1, some ⟨6, [[.d (.val (.int .i64 (0 : Int))), .d (.val (.string (⟨#[]⟩ : ByteArray))), .d (.val (.bool false)), .d (.val (.slice none 0 0)), .d (.val (.slice none 0 0)), .d (.val (.slice none 0 0))]]⟩, some ⟨6, [[.d (.val (.int .i64 r4.op)), .d (.val (.string r4.name)), .d (.val (.bool r4.num.neg)), .d (slD u32V r4.num.num), .d (slD u32V r4.num.den), .d (slD NodeA.enc v66_4)]]⟩, some ⟨13, [[.d (.val (.int .i64 r95.1.what.op)), .d (.val (.string r95.1.what.name)), .d (.val (.bool r95.1.what.num.neg)), .d (slD u32V r95.1.what.num.num), .d (slD u32V r95.1.what.num.den), .d (slD NodeA.enc r95.1.what.kids), .d (.val (.int .i64 r95.1.with_.op)), .d (.val (.string r95.1.with_.name)), .d (.val (.bool r95.1.with_.num.neg)), .d (slD u32V r95.1.with_.num.num), .d (slD u32V r95.1.with_.num.den), .d (slD NodeA.enc r95.1.with_.kids), .d (slD NodeA.enc r95.1.rates)]]⟩] ?_
 refine AW.one ?_
 refine AW.op mixed ?_
 refine AW.cu [0, 1, 2, 3, 4, 5] [(0, .ptr 0 5 0 0), (3, .ptr 2 6 0 0), (4, .ptr 3 6 0 0), (5, .ptr 4 6 0 0), (11, .ptr 5 13 0 0), (161, .d (.val (.bool (!r95.2.1))))] [oW 1 r95.2.2.pairs r95.2.2.path r95.2.2.clash r95.2.2.found r95.2.2.great, gO i64V 1 r95.2.2.path, oN p1, some ⟨6, [[.d (.val (.int .i64 (0 : Int))), .d (.val (.string (⟨#[]⟩ : ByteArray))), .d (.val (.bool false)), .d (.val (.slice none 0 0)), .d (.val (.slice none 0 0)), .d (.val (.slice none 0 0))]]⟩, some ⟨6, [[.d (.val (.int .i64 r4.op)), .d (.val (.string r4.name)), .d (.val (.bool r4.num.neg)), .d (slD u32V r4.num.num), .d (slD u32V r4.num.den), .d (slD NodeA.enc v66_4)]]⟩, some ⟨13, [[.d (.val (.int .i64 r95.1.what.op)), .d (.val (.string r95.1.what.name)), .d (.val (.bool r95.1.what.num.neg)), .d (slD u32V r95.1.what.num.num), .d (slD u32V r95.1.what.num.den), .d (slD NodeA.enc r95.1.what.kids), .d (.val (.int .i64 r95.1.with_.op)), .d (.val (.string r95.1.with_.name)), .d (.val (.bool r95.1.with_.num.neg)), .d (slD u32V r95.1.with_.num.num), .d (slD u32V r95.1.with_.num.den), .d (slD NodeA.enc r95.1.with_.kids), .d (slD NodeA.enc r95.1.rates)]]⟩] ?_
 refine AW.ts (!r95.2.1) (fun hb97 => ?_) (fun hb97 => ?_)
 ·have h := ifT hb97 h
  refine AW.op mixed ?_
  apply obindE h; intro r98 hx99 h
  have hc := nx (tree_Size_ok (h := hx99))
  refine callP hc ?_
  refine AW.cu [0, 1, 3, 4] [(4, .ptr 2 6 0 0), (5, .ptr 3 6 0 0)] [some ⟨5, [[.d (slD Api_PairA.enc r95.2.2.pairs), gV 1 1 r95.2.2.path, .d (slD i64V r95.2.2.clash), .d (.val (.bool r95.2.2.found)), .d (.val (.bool (decide ((16000 : Int) < r98))))]]⟩, gO i64V 1 r95.2.2.path, some ⟨6, [[.d (.val (.int .i64 (0 : Int))), .d (.val (.string (⟨#[]⟩ : ByteArray))), .d (.val (.bool false)), .d (.val (.slice none 0 0)), .d (.val (.slice none 0 0)), .d (.val (.slice none 0 0))]]⟩, some ⟨6, [[.d (.val (.int .i64 r4.op)), .d (.val (.string r4.name)), .d (.val (.bool r4.num.neg)), .d (slD u32V r4.num.num), .d (slD u32V r4.num.den), .d (slD NodeA.enc v66_4)]]⟩] ?_
  refine AW.op mixed ?_
  refine AW.ret ?_
  obtain rfl := Option.some.inj h
  refine nz ?_
  refine EndM.mk 1 (by decide) (by simp only [go_sem, reduceEqDiff, reduceAdd, reduceSub, reduceMul, reduceLeDiff, reduceLT, Nat.reduceBEq, reduceIte]) (ns ?_)
  exact ⟨.same _, ⟨⟨.same _, .same _, .same _, .same _, .same _, trivial⟩, trivial⟩⟩
 have h := ifF hb97 h
 refine AW.sk ?_
 refine AW.cu [0, 1, 2, 3, 4, 5] [(0, .ptr 0 5 0 0), (3, .ptr 2 6 0 0), (4, .ptr 3 6 0 0), (5, .ptr 4 6 0 0), (11, .ptr 5 13 0 0)] [oW 1 r95.2.2.pairs r95.2.2.path r95.2.2.clash r95.2.2.found r95.2.2.great, gO i64V 1 r95.2.2.path, oN p1, some ⟨6, [[.d (.val (.int .i64 (0 : Int))), .d (.val (.string (⟨#[]⟩ : ByteArray))), .d (.val (.bool false)), .d (.val (.slice none 0 0)), .d (.val (.slice none 0 0)), .d (.val (.slice none 0 0))]]⟩, some ⟨6, [[.d (.val (.int .i64 r4.op)), .d (.val (.string r4.name)), .d (.val (.bool r4.num.neg)), .d (slD u32V r4.num.num), .d (slD u32V r4.num.den), .d (slD NodeA.enc v66_4)]]⟩, some ⟨13, [[.d (.val (.int .i64 r95.1.what.op)), .d (.val (.string r95.1.what.name)), .d (.val (.bool r95.1.what.num.neg)), .d (slD u32V r95.1.what.num.num), .d (slD u32V r95.1.what.num.den), .d (slD NodeA.enc r95.1.what.kids), .d (.val (.int .i64 r95.1.with_.op)), .d (.val (.string r95.1.with_.name)), .d (.val (.bool r95.1.with_.num.neg)), .d (slD u32V r95.1.with_.num.num), .d (slD u32V r95.1.with_.num.den), .d (slD NodeA.enc r95.1.with_.kids), .d (slD NodeA.enc r95.1.rates)]]⟩] ?_
 refine AW.one ?_
 refine AW.op mixed ?_
 refine AW.cu [0, 1, 2, 3, 4, 5] [(0, .ptr 0 5 0 0), (3, .ptr 2 6 0 0), (4, .ptr 3 6 0 0), (5, .ptr 4 6 0 0), (11, .ptr 5 13 0 0), (171, .d (.val (.bool (p1.op == (56 : Int)))))] [oW 1 r95.2.2.pairs r95.2.2.path r95.2.2.clash r95.2.2.found r95.2.2.great, gO i64V 1 r95.2.2.path, oN p1, some ⟨6, [[.d (.val (.int .i64 (0 : Int))), .d (.val (.string (⟨#[]⟩ : ByteArray))), .d (.val (.bool false)), .d (.val (.slice none 0 0)), .d (.val (.slice none 0 0)), .d (.val (.slice none 0 0))]]⟩, some ⟨6, [[.d (.val (.int .i64 r4.op)), .d (.val (.string r4.name)), .d (.val (.bool r4.num.neg)), .d (slD u32V r4.num.num), .d (slD u32V r4.num.den), .d (slD NodeA.enc v66_4)]]⟩, some ⟨13, [[.d (.val (.int .i64 r95.1.what.op)), .d (.val (.string r95.1.what.name)), .d (.val (.bool r95.1.what.num.neg)), .d (slD u32V r95.1.what.num.num), .d (slD u32V r95.1.what.num.den), .d (slD NodeA.enc r95.1.what.kids), .d (.val (.int .i64 r95.1.with_.op)), .d (.val (.string r95.1.with_.name)), .d (.val (.bool r95.1.with_.num.neg)), .d (slD u32V r95.1.with_.num.num), .d (slD u32V r95.1.with_.num.den), .d (slD NodeA.enc r95.1.with_.kids), .d (slD NodeA.enc r95.1.rates)]]⟩] ?_
 refine AW.ts (p1.op == (56 : Int)) (fun hb100 => ?_) (fun hb100 => ?_)
 ·have h := ifT hb100 h
  refine AW.op mixed ?_
  refine AW.cu [0, 1, 3, 5] [(4, .ptr 2 6 0 0), (11, .ptr 3 13 0 0), (13, .d (.val (.slice none 0 0)))] [oW 1 r95.2.2.pairs r95.2.2.path r95.2.2.clash r95.2.2.found r95.2.2.great, gO i64V 1 r95.2.2.path, some ⟨6, [[.d (.val (.int .i64 (0 : Int))), .d (.val (.string (⟨#[]⟩ : ByteArray))), .d (.val (.bool false)), .d (.val (.slice none 0 0)), .d (.val (.slice none 0 0)), .d (.val (.slice none 0 0))]]⟩, some ⟨13, [[.d (.val (.int .i64 r95.1.what.op)), .d (.val (.string r95.1.what.name)), .d (.val (.bool r95.1.what.num.neg)), .d (slD u32V r95.1.what.num.num), .d (slD u32V r95.1.what.num.den), .d (slD NodeA.enc r95.1.what.kids), .d (.val (.int .i64 r95.1.with_.op)), .d (.val (.string r95.1.with_.name)), .d (.val (.bool r95.1.with_.num.neg)), .d (slD u32V r95.1.with_.num.num), .d (slD u32V r95.1.with_.num.den), .d (slD NodeA.enc r95.1.with_.kids), .d (slD NodeA.enc r95.1.rates)]]⟩] ?_
  refine AW.one ?_
  refine AW.op mixed ?_
  refine AW.cu [0, 1, 2] [(4, .ptr 2 6 0 0), (13, .d (.val (.slice none 0 0))), (173, .d (slD NodeA.enc r95.1.rates)), (174, .d (.val (.int .i64 (r95.1.rates.length : Int)))), (175, .d (.val (.int .i64 (0 : Int))))] [oW 1 r95.2.2.pairs r95.2.2.path r95.2.2.clash r95.2.2.found r95.2.2.great, gO i64V 1 r95.2.2.path, some ⟨6, [[.d (.val (.int .i64 (0 : Int))), .d (.val (.string (⟨#[]⟩ : ByteArray))), .d (.val (.bool false)), .d (.val (.slice none 0 0)), .d (.val (.slice none 0 0)), .d (.val (.slice none 0 0))]]⟩] ?_
  refine obindE h fun oJ104 h hJ104 => ?_
  refine AW.join (S := (List NodeA)) (fun e102_0 => [(4, .ptr 1 6 0 0), (13, accV 2 6 ((e102_0.map NodeA.enc).map (·.map .d)))]) (fun e102_0 => [oW 3 r95.2.2.pairs r95.2.2.path r95.2.2.clash r95.2.2.found r95.2.2.great, some ⟨6, [[.d (.val (.int .i64 (0 : Int))), .d (.val (.string (⟨#[]⟩ : ByteArray))), .d (.val (.bool false)), .d (.val (.slice none 0 0)), .d (.val (.slice none 0 0)), .d (.val (.slice none 0 0))]]⟩, accO 6 ((e102_0.map NodeA.enc).map (·.map .d)), gO i64V 1 r95.2.2.path]) (fun x => x = oJ104) ?_ ?_
  ·refine AW.block ?_
   refine AW.iter (S := Int × (List NodeA)) (fun (i101_0, i101_1) => [(4, .ptr 1 6 0 0), (13, accV 2 6 ((i101_1.map NodeA.enc).map (·.map .d))), (173, .d (slD NodeA.enc r95.1.rates)), (174, .d (.val (.int .i64 (r95.1.rates.length : Int)))), (175, .d (.val (.int .i64 i101_0)))]) (fun (i101_0, i101_1) => [oW 3 r95.2.2.pairs r95.2.2.path r95.2.2.clash r95.2.2.found r95.2.2.great, some ⟨6, [[.d (.val (.int .i64 (0 : Int))), .d (.val (.string (⟨#[]⟩ : ByteArray))), .d (.val (.bool false)), .d (.val (.slice none 0 0)), .d (.val (.slice none 0 0)), .d (.val (.slice none 0 0))]]⟩, accO 6 ((i101_1.map NodeA.enc).map (·.map .d)), gO i64V 1 r95.2.2.path]) [0, 2, 1002, 1] h (by simp only [go_sem, reduceEqDiff, reduceAdd, reduceSub, reduceMul, reduceLeDiff, reduceLT, Nat.reduceBEq, reduceIte]) ?_
   rintro again ⟨i101_0, i101_1⟩ h
   try dsimp only at h
   refine AW.op mixed ?_
   refine AW.cu [0, 3, 1, 2] [(4, .ptr 2 6 0 0), (13, accV 3 6 ((i101_1.map NodeA.enc).map (·.map .d))), (173, .d (slD NodeA.enc r95.1.rates)), (174, .d (.val (.int .i64 (r95.1.rates.length : Int)))), (175, .d (.val (.int .i64 i101_0))), (176, .d (.val (.bool (decide (i101_0 < (r95.1.rates.length : Int))))))] [oW 1 r95.2.2.pairs r95.2.2.path r95.2.2.clash r95.2.2.found r95.2.2.great, gO i64V 1 r95.2.2.path, some ⟨6, [[.d (.val (.int .i64 (0 : Int))), .d (.val (.string (⟨#[]⟩ : ByteArray))), .d (.val (.bool false)), .d (.val (.slice none 0 0)), .d (.val (.slice none 0 0)), .d (.val (.slice none 0 0))]]⟩, accO 6 ((i101_1.map NodeA.enc).map (·.map .d))] ?_
   refine AW.one ?_
   refine AW.ts (decide (i101_0 < (r95.1.rates.length : Int))) (fun hb105 => ?_) (fun hb105 => ?_)
   ·have h := ifT hb105 h
    refine AW.sk ?_
    refine AW.cu [0, 1, 2, 3] [(4, .ptr 2 6 0 0), (13, accV 3 6 ((i101_1.map NodeA.enc).map (·.map .d))), (173, .d (slD NodeA.enc r95.1.rates)), (174, .d (.val (.int .i64 (r95.1.rates.length : Int)))), (175, .d (.val (.int .i64 i101_0)))] [oW 1 r95.2.2.pairs r95.2.2.path r95.2.2.clash r95.2.2.found r95.2.2.great, gO i64V 1 r95.2.2.path, some ⟨6, [[.d (.val (.int .i64 (0 : Int))), .d (.val (.string (⟨#[]⟩ : ByteArray))), .d (.val (.bool false)), .d (.val (.slice none 0 0)), .d (.val (.slice none 0 0)), .d (.val (.slice none 0 0))]]⟩, accO 6 ((i101_1.map NodeA.enc).map (·.map .d))] ?_
    refine AW.one ?_
    refine AW.block ?_
    refine AW.one ?_
    refine AW.reg mixed (by kernel_rfl) ?_
    apply obindE h; intro x106 hx107 h
    try simp only [go_sem, reduceEqDiff, reduceAdd, reduceSub, reduceMul, reduceLeDiff, reduceLT, Nat.reduceBEq, reduceIte, (idx_some hx107).1, (idx_some hx107).2]
    refine AW.cut [0, 1, 2, 3, 6] [(4, .ptr 2 6 0 0), (13, accV 3 6 ((i101_1.map NodeA.enc).map (·.map .d))), (15, .ptr 4 6 0 0), (173, .d (slD NodeA.enc r95.1.rates)), (174, .d (.val (.int .i64 (r95.1.rates.length : Int)))), (175, .d (.val (.int .i64 i101_0)))] [oW 1 r95.2.2.pairs r95.2.2.path r95.2.2.clash r95.2.2.found r95.2.2.great, gO i64V 1 r95.2.2.path, some ⟨6, [[.d (.val (.int .i64 (0 : Int))), .d (.val (.string (⟨#[]⟩ : ByteArray))), .d (.val (.bool false)), .d (.val (.slice none 0 0)), .d (.val (.slice none 0 0)), .d (.val (.slice none 0 0))]]⟩, accO 6 ((i101_1.map NodeA.enc).map (·.map .d)), oN x106] (by simp only [go_sem, reduceEqDiff, reduceAdd, reduceSub, reduceMul, reduceLeDiff, reduceLT, Nat.reduceBEq, reduceIte, (idx_some hx107).1, (idx_some hx107).2]) ?_
    refine AW.op mixed ?_
    apply obindE h; intro r108 hx109 h
    have hc := nx (tree_Copy_own (h := hx109))
    refine callK_own hc (by simp only [go_sem, reduceEqDiff, reduceAdd, reduceSub, reduceMul, reduceLeDiff, reduceLT, Nat.reduceBEq, reduceIte]) ?_
    try simp only [go_sem, reduceEqDiff, reduceAdd, reduceSub, reduceMul, reduceLeDiff, reduceLT, Nat.reduceBEq, reduceIte]
    refine AW.cutS [0, 1, 2, 3, 7] [6] [] [(7, ⟨6, [[.d (.val (.int .i64 r108.op)), .d (.val (.string r108.name)), .d (.val (.bool r108.num.neg)), .d (slD u32V r108.num.num), .d (slD u32V r108.num.den), .d (slD NodeA.enc r108.kids)]]⟩)] [(4, .ptr 2 6 0 0), (13, accV 3 6 ((i101_1.map NodeA.enc).map (·.map .d))), (16, .ptr 4 6 0 0), (173, .d (slD NodeA.enc r95.1.rates)), (174, .d (.val (.int .i64 (r95.1.rates.length : Int)))), (175, .d (.val (.int .i64 i101_0)))] [oW 1 r95.2.2.pairs r95.2.2.path r95.2.2.clash r95.2.2.found r95.2.2.great, gO i64V 1 r95.2.2.path, some ⟨6, [[.d (.val (.int .i64 (0 : Int))), .d (.val (.string (⟨#[]⟩ : ByteArray))), .d (.val (.bool false)), .d (.val (.slice none 0 0)), .d (.val (.slice none 0 0)), .d (.val (.slice none 0 0))]]⟩, accO 6 ((i101_1.map NodeA.enc).map (·.map .d)), oN r108] (by simp only [go_sem, reduceEqDiff, reduceAdd, reduceSub, reduceMul, reduceLeDiff, reduceLT, Nat.reduceBEq, reduceIte, sealL_cons, sealL_nil]) (by simp only [go_sem, reduceEqDiff, reduceAdd, reduceSub, reduceMul, reduceLeDiff, reduceLT, Nat.reduceBEq, reduceIte, sealH_cons, sealH_nil]; exact ⟨⟨.same _, .same _, .same _, .same _, .same _, sealAcc (by simp only [go_sem, reduceEqDiff, reduceAdd, reduceSub, reduceMul, reduceLeDiff, reduceLT, Nat.reduceBEq, reduceIte]), trivial⟩, trivial⟩) (by simp only [go_sem, reduceEqDiff, reduceAdd, reduceSub, reduceMul, reduceLeDiff, reduceLT, Nat.reduceBEq, reduceIte]) ?_
    refine AW.rg mixed ?_
    apply obindE h; intro l110 hx111 h
    refine appG hx111 rfl (by simp only [go_sem, reduceEqDiff, reduceAdd, reduceSub, reduceMul, reduceLeDiff, reduceLT, Nat.reduceBEq, reduceIte]) (by simp only [go_sem, reduceEqDiff, reduceAdd, reduceSub, reduceMul, reduceLeDiff, reduceLT, Nat.reduceBEq, reduceIte]) (by simp only [go_sem, reduceEqDiff, reduceAdd, reduceSub, reduceMul, reduceLeDiff, reduceLT, Nat.reduceBEq, reduceIte]) (by simp) ?_
    try simp only [go_sem, reduceEqDiff, reduceAdd, reduceSub, reduceMul, reduceLeDiff, reduceLT, Nat.reduceBEq, reduceIte]
    refine AW.cu [0, 1, 2, 8] [(4, .ptr 2 6 0 0), (13, accV 3 6 ((l110.map NodeA.enc).map (·.map .d))), (173, .d (slD NodeA.enc r95.1.rates)), (174, .d (.val (.int .i64 (r95.1.rates.length : Int)))), (175, .d (.val (.int .i64 i101_0)))] [oW 1 r95.2.2.pairs r95.2.2.path r95.2.2.clash r95.2.2.found r95.2.2.great, gO i64V 1 r95.2.2.path, some ⟨6, [[.d (.val (.int .i64 (0 : Int))), .d (.val (.string (⟨#[]⟩ : ByteArray))), .d (.val (.bool false)), .d (.val (.slice none 0 0)), .d (.val (.slice none 0 0)), .d (.val (.slice none 0 0))]]⟩, accO 6 ((l110.map NodeA.enc).map (·.map .d))] ?_
    refine AW.rg mixed ?_
    exact NextQ.ar (IntKind.wrap .i64 (i101_0 + (1 : Int)), l110) [0, 2, 3, 1] h
   have h := ifF hb105 h
   refine AW.ex ?_
   exact JoinQ.ar i101_1 [0, 2, 3, 1] (Option.some.inj h)
  rintro e102_0 rfl
  have h := hJ104
  try dsimp only [Out.fin] at h
  refine nz ?_
  refine AW.cu [0, 3, 1, 2] [(4, .ptr 2 6 0 0), (13, accV 3 6 ((e102_0.map NodeA.enc).map (·.map .d)))] [oW 1 r95.2.2.pairs r95.2.2.path r95.2.2.clash r95.2.2.found r95.2.2.great, gO i64V 1 r95.2.2.path, some ⟨6, [[.d (.val (.int .i64 (0 : Int))), .d (.val (.string (⟨#[]⟩ : ByteArray))), .d (.val (.bool false)), .d (.val (.slice none 0 0)), .d (.val (.slice none 0 0)), .d (.val (.slice none 0 0))]]⟩, accO 6 ((e102_0.map NodeA.enc).map (·.map .d))] ?_
  refine AW.op mixed ?_
  refine AW.ret ?_
  obtain rfl := Option.some.inj h
  refine nz ?_
  refine EndM.mk 1 (by decide) (by simp only [go_sem, reduceEqDiff, reduceAdd, reduceSub, reduceMul, reduceLeDiff, reduceLT, Nat.reduceBEq, reduceIte]) (ns ?_)
  exact ⟨.aggL ⟨.same _, .same _, .same _, .nil, .nil, sealAcc (by simp only [go_sem, reduceEqDiff, reduceAdd, reduceSub, reduceMul, reduceLeDiff, reduceLT, Nat.reduceBEq, reduceIte]), trivial⟩, ⟨⟨.same _, .same _, .same _, .same _, .same _, trivial⟩, trivial⟩⟩
 have h := ifF hb100 h
 refine AW.sk ?_
 refine AW.cu [0, 1, 2, 3, 4, 5] [(0, .ptr 0 5 0 0), (3, .ptr 2 6 0 0), (4, .ptr 3 6 0 0), (5, .ptr 4 6 0 0), (11, .ptr 5 13 0 0)] [oW 1 r95.2.2.pairs r95.2.2.path r95.2.2.clash r95.2.2.found r95.2.2.great, gO i64V 1 r95.2.2.path, oN p1, some ⟨6, [[.d (.val (.int .i64 (0 : Int))), .d (.val (.string (⟨#[]⟩ : ByteArray))), .d (.val (.bool false)), .d (.val (.slice none 0 0)), .d (.val (.slice none 0 0)), .d (.val (.slice none 0 0))]]⟩, some ⟨6, [[.d (.val (.int .i64 r4.op)), .d (.val (.string r4.name)), .d (.val (.bool r4.num.neg)), .d (slD u32V r4.num.num), .d (slD u32V r4.num.den), .d (slD NodeA.enc v66_4)]]⟩, some ⟨13, [[.d (.val (.int .i64 r95.1.what.op)), .d (.val (.string r95.1.what.name)), .d (.val (.bool r95.1.what.num.neg)), .d (slD u32V r95.1.what.num.num), .d (slD u32V r95.1.what.num.den), .d (slD NodeA.enc r95.1.what.kids), .d (.val (.int .i64 r95.1.with_.op)), .d (.val (.string r95.1.with_.name)), .d (.val (.bool r95.1.with_.num.neg)), .d (slD u32V r95.1.with_.num.num), .d (slD u32V r95.1.with_.num.den), .d (slD NodeA.enc r95.1.with_.kids), .d (slD NodeA.enc r95.1.rates)]]⟩] ?_
 refine AW.one ?_
 refine AW.op mixed ?_
 refine AW.cu [0, 1, 3, 4, 5] [(0, .ptr 0 5 0 0), (4, .ptr 2 6 0 0), (5, .ptr 3 6 0 0), (11, .ptr 4 13 0 0), (191, .d (.val (.bool ((p1.kids.length : Int) == (0 : Int)))))] [oW 1 r95.2.2.pairs r95.2.2.path r95.2.2.clash r95.2.2.found r95.2.2.great, gO i64V 1 r95.2.2.path, some ⟨6, [[.d (.val (.int .i64 (0 : Int))), .d (.val (.string (⟨#[]⟩ : ByteArray))), .d (.val (.bool false)), .d (.val (.slice none 0 0)), .d (.val (.slice none 0 0)), .d (.val (.slice none 0 0))]]⟩, some ⟨6, [[.d (.val (.int .i64 r4.op)), .d (.val (.string r4.name)), .d (.val (.bool r4.num.neg)), .d (slD u32V r4.num.num), .d (slD u32V r4.num.den), .d (slD NodeA.enc v66_4)]]⟩, some ⟨13, [[.d (.val (.int .i64 r95.1.what.op)), .d (.val (.string r95.1.what.name)), .d (.val (.bool r95.1.what.num.neg)), .d (slD u32V r95.1.what.num.num), .d (slD u32V r95.1.what.num.den), .d (slD NodeA.enc r95.1.what.kids), .d (.val (.int .i64 r95.1.with_.op)), .d (.val (.string r95.1.with_.name)), .d (.val (.bool r95.1.with_.num.neg)), .d (slD u32V r95.1.with_.num.num), .d (slD u32V r95.1.with_.num.den), .d (slD NodeA.enc r95.1.with_.kids), .d (slD NodeA.enc r95.1.rates)]]⟩] ?_
 refine AW.ts ((p1.kids.length : Int) == (0 : Int)) (fun hb112 => ?_) (fun hb112 => ?_)
 ·have h := ifT hb112 h
  refine AW.op mixed ?_
  apply obindE h; intro r113 hx114 h
  have hc := nx (tree_Copy_own (h := hx114))
  refine callK_own hc (by simp only [go_sem, reduceEqDiff, reduceAdd, reduceSub, reduceMul, reduceLeDiff, reduceLT, Nat.reduceBEq, reduceIte]) ?_
  try simp only [go_sem, reduceEqDiff, reduceAdd, reduceSub, reduceMul, reduceLeDiff, reduceLT, Nat.reduceBEq, reduceIte]
  refine AW.ret ?_
  obtain rfl := Option.some.inj h
  refine nz ?_
  refine EndM.mk 1 (by decide) (by simp only [go_sem, reduceEqDiff, reduceAdd, reduceSub, reduceMul, reduceLeDiff, reduceLT, Nat.reduceBEq, reduceIte]) (ns ?_)
  exact ⟨.aggL ⟨.same _, .same _, .same _, .same _, .same _, sealAcc (by simp only [go_sem, reduceEqDiff, reduceAdd, reduceSub, reduceMul, reduceLeDiff, reduceLT, Nat.reduceBEq, reduceIte]), trivial⟩, ⟨⟨.same _, .same _, .same _, .same _, .same _, trivial⟩, trivial⟩⟩
 have h := ifF hb112 h
 refine AW.sk ?_
 refine AW.cu [0, 1, 2, 3, 4] [(0, .ptr 0 5 0 0), (4, .ptr 2 6 0 0), (5, .ptr 3 6 0 0), (11, .ptr 4 13 0 0)] [oW 1 r95.2.2.pairs r95.2.2.path r95.2.2.clash r95.2.2.found r95.2.2.great, gO i64V 1 r95.2.2.path, some ⟨6, [[.d (.val (.int .i64 (0 : Int))), .d (.val (.string (⟨#[]⟩ : ByteArray))), .d (.val (.bool false)), .d (.val (.slice none 0 0)), .d (.val (.slice none 0 0)), .d (.val (.slice none 0 0))]]⟩, some ⟨6, [[.d (.val (.int .i64 r4.op)), .d (.val (.string r4.name)), .d (.val (.bool r4.num.neg)), .d (slD u32V r4.num.num), .d (slD u32V r4.num.den), .d (slD NodeA.enc v66_4)]]⟩, some ⟨13, [[.d (.val (.int .i64 r95.1.what.op)), .d (.val (.string r95.1.what.name)), .d (.val (.bool r95.1.what.num.neg)), .d (slD u32V r95.1.what.num.num), .d (slD u32V r95.1.what.num.den), .d (slD NodeA.enc r95.1.what.kids), .d (.val (.int .i64 r95.1.with_.op)), .d (.val (.string r95.1.with_.name)), .d (.val (.bool r95.1.with_.num.neg)), .d (slD u32V r95.1.with_.num.num), .d (slD u32V r95.1.with_.num.den), .d (slD NodeA.enc r95.1.with_.kids), .d (slD NodeA.enc r95.1.rates)]]⟩] ?_
 refine AW.one ?_
 refine AW.reg mixed (by kernel_rfl) ?_
 apply obindE h; intro x115 hx116 h
 try simp only [go_sem, reduceEqDiff, reduceAdd, reduceSub, reduceMul, reduceLeDiff, reduceLT, Nat.reduceBEq, reduceIte, (idx_some hx116).1, (idx_some hx116).2]
 refine AW.cut [0, 1, 2, 4, 9] [(0, .ptr 0 5 0 0), (4, .ptr 2 6 0 0), (11, .ptr 3 13 0 0), (17, .ptr 4 6 0 0)] [oW 1 r95.2.2.pairs r95.2.2.path r95.2.2.clash r95.2.2.found r95.2.2.great, gO i64V 1 r95.2.2.path, some ⟨6, [[.d (.val (.int .i64 (0 : Int))), .d (.val (.string (⟨#[]⟩ : ByteArray))), .d (.val (.bool false)), .d (.val (.slice none 0 0)), .d (.val (.slice none 0 0)), .d (.val (.slice none 0 0))]]⟩, some ⟨13, [[.d (.val (.int .i64 r95.1.what.op)), .d (.val (.string r95.1.what.name)), .d (.val (.bool r95.1.what.num.neg)), .d (slD u32V r95.1.what.num.num), .d (slD u32V r95.1.what.num.den), .d (slD NodeA.enc r95.1.what.kids), .d (.val (.int .i64 r95.1.with_.op)), .d (.val (.string r95.1.with_.name)), .d (.val (.bool r95.1.with_.num.neg)), .d (slD u32V r95.1.with_.num.num), .d (slD u32V r95.1.with_.num.den), .d (slD NodeA.enc r95.1.with_.kids), .d (slD NodeA.enc r95.1.rates)]]⟩, oN x115] (by simp only [go_sem, reduceEqDiff, reduceAdd, reduceSub, reduceMul, reduceLeDiff, reduceLT, Nat.reduceBEq, reduceIte, (idx_some hx116).1, (idx_some hx116).2]) ?_
 refine AW.one ?_
 refine AW.op mixed ?_
 apply obindE h; intro r117 hx118 h
 have hc := nx (static_FreeOf_ok (h := hx118))
 refine callD hc ?_
 apply obindE h; intro r119 hx120 h
 have hc := nx (subst_captured_ok (h := hx120))
 refine callD hc ?_
 refine AW.cu [0, 1, 2, 3, 4] [(0, .ptr 0 5 0 0), (4, .ptr 2 6 0 0), (11, .ptr 3 13 0 0), (17, .ptr 4 6 0 0), (203, .d (.val (.bool r119)))] [oW 1 r95.2.2.pairs r95.2.2.path r95.2.2.clash r95.2.2.found r95.2.2.great, gO i64V 1 r95.2.2.path, some ⟨6, [[.d (.val (.int .i64 (0 : Int))), .d (.val (.string (⟨#[]⟩ : ByteArray))), .d (.val (.bool false)), .d (.val (.slice none 0 0)), .d (.val (.slice none 0 0)), .d (.val (.slice none 0 0))]]⟩, some ⟨13, [[.d (.val (.int .i64 r95.1.what.op)), .d (.val (.string r95.1.what.name)), .d (.val (.bool r95.1.what.num.neg)), .d (slD u32V r95.1.what.num.num), .d (slD u32V r95.1.what.num.den), .d (slD NodeA.enc r95.1.what.kids), .d (.val (.int .i64 r95.1.with_.op)), .d (.val (.string r95.1.with_.name)), .d (.val (.bool r95.1.with_.num.neg)), .d (slD u32V r95.1.with_.num.num), .d (slD u32V r95.1.with_.num.den), .d (slD NodeA.enc r95.1.with_.kids), .d (slD NodeA.enc r95.1.rates)]]⟩, oN x115] ?_
 refine AW.ts r119 (fun hb121 => ?_) (fun hb121 => ?_)
 ·have h := ifT hb121 h
  refine AW.op mixed ?_
  apply obindE h; intro r122 hx123 h
  have hc := nx (subst_walker_stop_ok (h := hx123))
  refine callK_grow [0] 1 hc (by simp only [go_sem, reduceEqDiff, reduceAdd, reduceSub, reduceMul, reduceLeDiff, reduceLT, Nat.reduceBEq, reduceIte] <;> rfl) (by simp) (by simp) (by simp only [go_sem, reduceEqDiff, reduceAdd, reduceSub, reduceMul, reduceLeDiff, reduceLT, Nat.reduceBEq, reduceIte]) ?_
  try simp only [go_sem, reduceEqDiff, reduceAdd, reduceSub, reduceMul, reduceLeDiff, reduceLT, Nat.reduceBEq, reduceIte]
  refine AW.cu [0, 6, 2] [(4, .ptr 2 6 0 0)] [oW 1 r122.pairs r122.path r122.clash r122.found r122.great, gO i64V 1 r122.path, some ⟨6, [[.d (.val (.int .i64 (0 : Int))), .d (.val (.string (⟨#[]⟩ : ByteArray))), .d (.val (.bool false)), .d (.val (.slice none 0 0)), .d (.val (.slice none 0 0)), .d (.val (.slice none 0 0))]]⟩] ?_
  refine AW.op mixed ?_
  refine AW.ret ?_
  obtain rfl := Option.some.inj h
  refine nz ?_
  refine EndM.mk 1 (by decide) (by simp only [go_sem, reduceEqDiff, reduceAdd, reduceSub, reduceMul, reduceLeDiff, reduceLT, Nat.reduceBEq, reduceIte]) (ns ?_)
  exact ⟨.aggL ⟨.same _, .same _, .same _, .nil, .nil, .nil, trivial⟩, ⟨⟨.same _, .same _, .same _, .same _, .same _, trivial⟩, trivial⟩⟩
 have h := ifF hb121 h
 refine AW.sk ?_
 refine AW.cu [0, 1, 2, 3, 4] [(0, .ptr 0 5 0 0), (4, .ptr 2 6 0 0), (11, .ptr 3 13 0 0), (17, .ptr 4 6 0 0)] [oW 1 r95.2.2.pairs r95.2.2.path r95.2.2.clash r95.2.2.found r95.2.2.great, gO i64V 1 r95.2.2.path, some ⟨6, [[.d (.val (.int .i64 (0 : Int))), .d (.val (.string (⟨#[]⟩ : ByteArray))), .d (.val (.bool false)), .d (.val (.slice none 0 0)), .d (.val (.slice none 0 0)), .d (.val (.slice none 0 0))]]⟩, some ⟨13, [[.d (.val (.int .i64 r95.1.what.op)), .d (.val (.string r95.1.what.name)), .d (.val (.bool r95.1.what.num.neg)), .d (slD u32V r95.1.what.num.num), .d (slD u32V r95.1.what.num.den), .d (slD NodeA.enc r95.1.what.kids), .d (.val (.int .i64 r95.1.with_.op)), .d (.val (.string r95.1.with_.name)), .d (.val (.bool r95.1.with_.num.neg)), .d (slD u32V r95.1.with_.num.num), .d (slD u32V r95.1.with_.num.den), .d (slD NodeA.enc r95.1.with_.kids), .d (slD NodeA.enc r95.1.rates)]]⟩, oN x115] ?_
 refine AW.one ?_
 refine AW.op mixed ?_
 apply obindE h; intro r124 hx125 h
 have hc := nx (tree_Size_ok (h := hx125))
 refine callD hc ?_
 apply obindE h; intro r126 hx127 h
 have hc := nx (subst_dots_ok (h := hx127))
 refine callD hc ?_
 apply obindE h; intro r128 hx129 h
 have hc := nx (tree_Size_ok (h := hx129))
 refine callD hc ?_
 refine AW.cu [0, 1, 2, 3, 4] [(0, .ptr 0 5 0 0), (4, .ptr 2 6 0 0), (11, .ptr 3 13 0 0), (17, .ptr 4 6 0 0)] [some ⟨5, [[.d (slD Api_PairA.enc r95.2.2.pairs), gV 1 1 r95.2.2.path, .d (slD i64V r95.2.2.clash), .d (.val (.bool r95.2.2.found)), .d (.val (.bool (decide ((16000 : Int) < (IntKind.wrap .i64 (r124 + (IntKind.wrap .i64 (r126 * (IntKind.wrap .i64 (r128 - (1 : Int)))))))))))]]⟩, gO i64V 1 r95.2.2.path, some ⟨6, [[.d (.val (.int .i64 (0 : Int))), .d (.val (.string (⟨#[]⟩ : ByteArray))), .d (.val (.bool false)), .d (.val (.slice none 0 0)), .d (.val (.slice none 0 0)), .d (.val (.slice none 0 0))]]⟩, some ⟨13, [[.d (.val (.int .i64 r95.1.what.op)), .d (.val (.string r95.1.what.name)), .d (.val (.bool r95.1.what.num.neg)), .d (slD u32V r95.1.what.num.num), .d (slD u32V r95.1.what.num.den), .d (slD NodeA.enc r95.1.what.kids), .d (.val (.int .i64 r95.1.with_.op)), .d (.val (.string r95.1.with_.name)), .d (.val (.bool r95.1.with_.num.neg)), .d (slD u32V r95.1.with_.num.num), .d (slD u32V r95.1.with_.num.den), .d (slD NodeA.enc r95.1.with_.kids), .d (slD NodeA.enc r95.1.rates)]]⟩, oN x115] ?_
 refine AW.op mixed ?_
 refine AW.cu [0, 1, 2, 3, 4] [(4, .ptr 2 6 0 0), (11, .ptr 3 13 0 0), (17, .ptr 4 6 0 0), (225, .d (.val (.bool (decide ((16000 : Int) < (IntKind.wrap .i64 (r124 + (IntKind.wrap .i64 (r126 * (IntKind.wrap .i64 (r128 - (1 : Int))))))))))))] [some ⟨5, [[.d (slD Api_PairA.enc r95.2.2.pairs), gV 1 1 r95.2.2.path, .d (slD i64V r95.2.2.clash), .d (.val (.bool r95.2.2.found)), .d (.val (.bool (decide ((16000 : Int) < (IntKind.wrap .i64 (r124 + (IntKind.wrap .i64 (r126 * (IntKind.wrap .i64 (r128 - (1 : Int)))))))))))]]⟩, gO i64V 1 r95.2.2.path, some ⟨6, [[.d (.val (.int .i64 (0 : Int))), .d (.val (.string (⟨#[]⟩ : ByteArray))), .d (.val (.bool false)), .d (.val (.slice none 0 0)), .d (.val (.slice none 0 0)), .d (.val (.slice none 0 0))]]⟩, some ⟨13, [[.d (.val (.int .i64 r95.1.what.op)), .d (.val (.string r95.1.what.name)), .d (.val (.bool r95.1.what.num.neg)), .d (slD u32V r95.1.what.num.num), .d (slD u32V r95.1.what.num.den), .d (slD NodeA.enc r95.1.what.kids), .d (.val (.int .i64 r95.1.with_.op)), .d (.val (.string r95.1.with_.name)), .d (.val (.bool r95.1.with_.num.neg)), .d (slD u32V r95.1.with_.num.num), .d (slD u32V r95.1.with_.num.den), .d (slD NodeA.enc r95.1.with_.kids), .d (slD NodeA.enc r95.1.rates)]]⟩, oN x115] ?_
 refine AW.ts (decide ((16000 : Int) < (IntKind.wrap .i64 (r124 + (IntKind.wrap .i64 (r126 * (IntKind.wrap .i64 (r128 - (1 : Int))))))))) (fun hb130 => ?_) (fun hb130 => ?_)
 ·have h := ifT hb130 h
  refine AW.op mixed ?_
  refine AW.ret ?_
  obtain rfl := Option.some.inj h
  refine nz ?_
  refine EndM.mk 1 (by decide) (by simp only [go_sem, reduceEqDiff, reduceAdd, reduceSub, reduceMul, reduceLeDiff, reduceLT, Nat.reduceBEq, reduceIte]) (ns ?_)
  exact ⟨.aggL ⟨.same _, .same _, .same _, .nil, .nil, .nil, trivial⟩, ⟨⟨.same _, .same _, .same _, .same _, .same _, trivial⟩, trivial⟩⟩
 have h := ifF hb130 h
 refine AW.sk ?_
 refine AW.cu [0, 1, 2, 3, 4] [(4, .ptr 2 6 0 0), (11, .ptr 3 13 0 0), (17, .ptr 4 6 0 0)] [some ⟨5, [[.d (slD Api_PairA.enc r95.2.2.pairs), gV 1 1 r95.2.2.path, .d (slD i64V r95.2.2.clash), .d (.val (.bool r95.2.2.found)), .d (.val (.bool (decide ((16000 : Int) < (IntKind.wrap .i64 (r124 + (IntKind.wrap .i64 (r126 * (IntKind.wrap .i64 (r128 - (1 : Int)))))))))))]]⟩, gO i64V 1 r95.2.2.path, some ⟨6, [[.d (.val (.int .i64 (0 : Int))), .d (.val (.string (⟨#[]⟩ : ByteArray))), .d (.val (.bool false)), .d (.val (.slice none 0 0)), .d (.val (.slice none 0 0)), .d (.val (.slice none 0 0))]]⟩, some ⟨13, [[.d (.val (.int .i64 r95.1.what.op)), .d (.val (.string r95.1.what.name)), .d (.val (.bool r95.1.what.num.neg)), .d (slD u32V r95.1.what.num.num), .d (slD u32V r95.1.what.num.den), .d (slD NodeA.enc r95.1.what.kids), .d (.val (.int .i64 r95.1.with_.op)), .d (.val (.string r95.1.with_.name)), .d (.val (.bool r95.1.with_.num.neg)), .d (slD u32V r95.1.with_.num.num), .d (slD u32V r95.1.with_.num.den), .d (slD NodeA.enc r95.1.with_.kids), .d (slD NodeA.enc r95.1.rates)]]⟩, oN x115] ?_
 refine AW.op mixed ?_
 apply obindE h; intro r131 hx132 h
 have hc := nx (subst_put_ok (h := hx132))
 refine callP hc ?_
 refine AW.ret ?_
 obtain rfl := Option.some.inj h
 refine nz ?_
 refine EndM.mk 1 (by decide) (by simp only [go_sem, reduceEqDiff, reduceAdd, reduceSub, reduceMul, reduceLeDiff, reduceLT, Nat.reduceBEq, reduceIte]) (ns ?_)
 exact ⟨.same _, ⟨⟨.same _, .same _, .same _, .same _, .same _, trivial⟩, trivial⟩⟩
/-! ### (*isochrone/subst.walker).kid -/
def subst_walker_kid_body (K : Nat) (self22 : (Subst_walkerA × NodeA) → Option (NodeA × Subst_walkerA)) (self51 : (Subst_walkerA × NodeA × Int) → Option (NodeA × Subst_walkerA)) (p0 : Subst_walkerA) (p1 : NodeA) (p2 : Int) : Option (NodeA × Subst_walkerA) := (appO 8 (p0.path.getD []) [p2]).bind fun l1 =>
 (idx p1.kids p2).bind fun x3 =>
 (self22 ((Subst_walkerA.mk p0.pairs (some l1) p0.clash p0.found p0.great), x3)).bind fun r5 =>
 (popO r5.2.path (IntKind.wrap .i64 (((r5.2.path.getD []).length : Int) - (1 : Int)))).bind fun l8 =>
 some (r5.1, (Subst_walkerA.mk r5.2.pairs (some l8) r5.2.clash r5.2.found r5.2.great))
set_option maxHeartbeats 4000000 in
theorem subst_walker_kid_step (K : Nat) (self22 : (Subst_walkerA × NodeA) → Option (NodeA × Subst_walkerA)) (self51 : (Subst_walkerA × NodeA × Int) → Option (NodeA × Subst_walkerA)) (hself22 : ∀ (q : Subst_walkerA × NodeA) (r : NodeA × Subst_walkerA), self22 q = some r → Cm Tryz.prog 22 [.ptr 0 5 0 0, aggV q.2.enc] 1 ([oW 1 q.1.pairs q.1.path q.1.clash q.1.found q.1.great] ++ [gO i64V 1 q.1.path]) (aggV r.1.enc) ([oW 1 r.2.pairs r.2.path r.2.clash r.2.found r.2.great] ++ [gO i64V 1 r.2.path])) (hself51 : ∀ (q : Subst_walkerA × NodeA × Int) (r : NodeA × Subst_walkerA), self51 q = some r → Cm Tryz.prog 51 [.ptr 0 5 0 0, aggV q.2.1.enc, .d (.val (.int .i64 q.2.2))] 1 ([oW 1 q.1.pairs q.1.path q.1.clash q.1.found q.1.great] ++ [gO i64V 1 q.1.path]) (aggV r.1.enc) ([oW 1 r.2.pairs r.2.path r.2.clash r.2.found r.2.great] ++ [gO i64V 1 r.2.path])) (p0 : Subst_walkerA) (p1 : NodeA) (p2 : Int) (r : NodeA × Subst_walkerA) (h : subst_walker_kid_body K self22 self51 p0 p1 p2 = some r) : Cm Tryz.prog 51 [.ptr 0 5 0 0, aggV p1.enc, .d (.val (.int .i64 p2))] 1 ([oW 1 p0.pairs p0.path p0.clash p0.found p0.great] ++ [gO i64V 1 p0.path]) (aggV r.1.enc) ([oW 1 r.2.pairs r.2.path r.2.clash r.2.found r.2.great] ++ [gO i64V 1 r.2.path]) := by
 refine Cm.ofA mixed Tryz.func51 rfl Tryz.call51 Tryz.ntmps51 Tryz.results51 (by simp) rfl rfl (by simp only [go_sem, reduceEqDiff, reduceAdd, reduceSub, reduceMul, reduceLeDiff, reduceLT, Nat.reduceBEq, reduceIte, List.length_cons]) (by simp only [go_sem, reduceEqDiff, reduceAdd, reduceSub, reduceMul, reduceLeDiff, reduceLT, Nat.reduceBEq, reduceIte]) (by simp only [go_sem, reduceEqDiff, reduceAdd, reduceSub, reduceMul, reduceLeDiff, reduceLT, Nat.reduceBEq, reduceIte]) (by simp only [go_sem, reduceEqDiff, reduceAdd, reduceSub, reduceMul, reduceLeDiff, reduceLT, Nat.reduceBEq, reduceIte]) datO_g datO_g fun hfit => ?_
 unfold subst_walker_kid_body at h
 refine AW.cu [0, 1] [(0, .ptr 0 5 0 0), (1, .agg [.d (.val (.int .i64 p1.op)), .d (.val (.string p1.name)), .d (.val (.bool p1.num.neg)), .d (slD u32V p1.num.num), .d (slD u32V p1.num.den), .d (slD NodeA.enc p1.kids)]), (2, .d (.val (.int .i64 p2)))] [oW 1 p0.pairs p0.path p0.clash p0.found p0.great, gO i64V 1 p0.path] ?_
 refine AW.op mixed ?_
 refine AW.cu [0, 1, 2, 3] [(0, .ptr 0 5 0 0), (2, .d (.val (.int .i64 p2))), (4, .ptr 2 6 0 0), (6, .ptr 3 6 0 0)] [oW 1 p0.pairs p0.path p0.clash p0.found p0.great, gO i64V 1 p0.path, oN p1, some ⟨6, [[.d (.val (.int .i64 (0 : Int))), .d (.val (.string (⟨#[]⟩ : ByteArray))), .d (.val (.bool false)), .d (.val (.slice none 0 0)), .d (.val (.slice none 0 0)), .d (.val (.slice none 0 0))]]⟩] ?_
 refine AW.op mixed ?_
 apply obindE h; intro l1 hx2 h
 refine appX (f := i64V) (x := p0.path) hx2 rfl (by simp only [go_sem, reduceEqDiff, reduceAdd, reduceSub, reduceMul, reduceLeDiff, reduceLT, Nat.reduceBEq, reduceIte]) (by simp only [go_sem, reduceEqDiff, reduceAdd, reduceSub, reduceMul, reduceLeDiff, reduceLT, Nat.reduceBEq, reduceIte]) (by simp only [go_sem, reduceEqDiff, reduceAdd, reduceSub, reduceMul, reduceLeDiff, reduceLT, Nat.reduceBEq, reduceIte]) (by simp) ?_
 try simp only [go_sem, reduceEqDiff, reduceAdd, reduceSub, reduceMul, reduceLeDiff, reduceLT, Nat.reduceBEq, reduceIte]
 refine AW.cu [0, 11, 2, 3] [(0, .ptr 0 5 0 0), (2, .d (.val (.int .i64 p2))), (4, .ptr 2 6 0 0), (6, .ptr 3 6 0 0)] [some ⟨5, [[.d (slD Api_PairA.enc p0.pairs), gV 1 1 (some l1), .d (slD i64V p0.clash), .d (.val (.bool p0.found)), .d (.val (.bool p0.great))]]⟩, gO i64V 1 (some l1), oN p1, some ⟨6, [[.d (.val (.int .i64 (0 : Int))), .d (.val (.string (⟨#[]⟩ : ByteArray))), .d (.val (.bool false)), .d (.val (.slice none 0 0)), .d (.val (.slice none 0 0)), .d (.val (.slice none 0 0))]]⟩] ?_
 refine AW.one ?_
 refine AW.reg mixed (by kernel_rfl) ?_
 apply obindE h; intro x3 hx4 h
 try simp only [go_sem, reduceEqDiff, reduceAdd, reduceSub, reduceMul, reduceLeDiff, reduceLT, Nat.reduceBEq, reduceIte, (idx_some hx4).1, (idx_some hx4).2]
 apply obindE h; intro r5 hx6 h
 have hc := nx (hself22 _ _ hx6)
 refine callK_grow [0] 1 hc (by simp only [go_sem, reduceEqDiff, reduceAdd, reduceSub, reduceMul, reduceLeDiff, reduceLT, Nat.reduceBEq, reduceIte] <;> rfl) (by simp) (by simp) (by simp only [go_sem, reduceEqDiff, reduceAdd, reduceSub, reduceMul, reduceLeDiff, reduceLT, Nat.reduceBEq, reduceIte, (idx_some hx4).1, (idx_some hx4).2]) ?_
 try simp only [go_sem, reduceEqDiff, reduceAdd, reduceSub, reduceMul, reduceLeDiff, reduceLT, Nat.reduceBEq, reduceIte, (idx_some hx4).1, (idx_some hx4).2]
 refine AW.cut [0, 10, 3, 11] [(0, .ptr 0 5 0 0), (6, .ptr 2 6 0 0), (7, .ptr 3 6 0 0)] [oW 1 r5.2.pairs r5.2.path r5.2.clash r5.2.found r5.2.great, gO i64V 1 r5.2.path, some ⟨6, [[.d (.val (.int .i64 (0 : Int))), .d (.val (.string (⟨#[]⟩ : ByteArray))), .d (.val (.bool false)), .d (.val (.slice none 0 0)), .d (.val (.slice none 0 0)), .d (.val (.slice none 0 0))]]⟩, oN r5.1] (by simp only [go_sem, reduceEqDiff, reduceAdd, reduceSub, reduceMul, reduceLeDiff, reduceLT, Nat.reduceBEq, reduceIte, (idx_some hx4).1, (idx_some hx4).2]) ?_
 refine AW.op mixed ?_
 apply obindE h; intro l8 hx7 h
 refine popX (x := r5.2.path) hx7 es39 ?_
 try simp only [go_sem, reduceEqDiff, reduceAdd, reduceSub, reduceMul, reduceLeDiff, reduceLT, Nat.reduceBEq, reduceIte]
 refine AW.popT (f := i64V) (n := 1) (x := r5.2.path) 1 hx7 (by simp only [go_sem, reduceEqDiff, reduceAdd, reduceSub, reduceMul, reduceLeDiff, reduceLT, Nat.reduceBEq, reduceIte]) ?_
 refine AW.cu [0, 1, 2, 3] [(6, .ptr 2 6 0 0), (7, .ptr 3 6 0 0)] [some ⟨5, [[.d (slD Api_PairA.enc r5.2.pairs), gV 1 1 (some l8), .d (slD i64V r5.2.clash), .d (.val (.bool r5.2.found)), .d (.val (.bool r5.2.great))]]⟩, gO i64V 1 (some l8), some ⟨6, [[.d (.val (.int .i64 (0 : Int))), .d (.val (.string (⟨#[]⟩ : ByteArray))), .d (.val (.bool false)), .d (.val (.slice none 0 0)), .d (.val (.slice none 0 0)), .d (.val (.slice none 0 0))]]⟩, oN r5.1] ?_
 refine AW.op mixed ?_
 refine AW.ret ?_
 obtain rfl := Option.some.inj h
 refine nz ?_
 refine EndM.mk 1 (by decide) (by simp only [go_sem, reduceEqDiff, reduceAdd, reduceSub, reduceMul, reduceLeDiff, reduceLT, Nat.reduceBEq, reduceIte]) (ns ?_)
 exact ⟨.same _, ⟨⟨.same _, .same _, .same _, .same _, .same _, trivial⟩, trivial⟩⟩
def grp_subst_walker_walk (K : Nat) : Nat → ((Subst_walkerA × NodeA) → Option (NodeA × Subst_walkerA)) × ((Subst_walkerA × NodeA × Int) → Option (NodeA × Subst_walkerA))
 | 0 => (fun _ => none, fun _ => none)
 | k + 1 => (fun q => subst_walker_walk_body K (grp_subst_walker_walk K k).1 (grp_subst_walker_walk K k).2 q.1 q.2, fun q => subst_walker_kid_body K (grp_subst_walker_walk K k).1 (grp_subst_walker_walk K k).2 q.1 q.2.1 q.2.2)
def subst_walker_walk (K : Nat) (p0 : Subst_walkerA) (p1 : NodeA) : Option (NodeA × Subst_walkerA) := (grp_subst_walker_walk K K).1 (p0, p1)
theorem key_subst_walker_walk {K : Nat} (k : Nat) : (∀ (q : Subst_walkerA × NodeA) (r : NodeA × Subst_walkerA), (grp_subst_walker_walk K k).1 q = some r → Cm Tryz.prog 22 [.ptr 0 5 0 0, aggV q.2.enc] 1 ([oW 1 q.1.pairs q.1.path q.1.clash q.1.found q.1.great] ++ [gO i64V 1 q.1.path]) (aggV r.1.enc) ([oW 1 r.2.pairs r.2.path r.2.clash r.2.found r.2.great] ++ [gO i64V 1 r.2.path])) ∧ (∀ (q : Subst_walkerA × NodeA × Int) (r : NodeA × Subst_walkerA), (grp_subst_walker_walk K k).2 q = some r → Cm Tryz.prog 51 [.ptr 0 5 0 0, aggV q.2.1.enc, .d (.val (.int .i64 q.2.2))] 1 ([oW 1 q.1.pairs q.1.path q.1.clash q.1.found q.1.great] ++ [gO i64V 1 q.1.path]) (aggV r.1.enc) ([oW 1 r.2.pairs r.2.path r.2.clash r.2.found r.2.great] ++ [gO i64V 1 r.2.path])) := by
 induction k with
 | zero => exact ⟨(fun q r h => nomatch (show (none : Option _) = some r from h)), (fun q r h => nomatch (show (none : Option _) = some r from h))⟩
 | succ k ih => exact ⟨fun q r h => subst_walker_walk_step K _ _ ih.1 ih.2 q.1 q.2 r h, fun q r h => subst_walker_kid_step K _ _ ih.1 ih.2 q.1 q.2.1 q.2.2 r h⟩
theorem subst_walker_walk_ok {K : Nat} {p0 : Subst_walkerA} {p1 : NodeA} {r : NodeA × Subst_walkerA} (h : subst_walker_walk K p0 p1 = some r) : Cm Tryz.prog 22 [.ptr 0 5 0 0, aggV p1.enc] 1 ([oW 1 p0.pairs p0.path p0.clash p0.found p0.great] ++ [gO i64V 1 p0.path]) (aggV r.1.enc) ([oW 1 r.2.pairs r.2.path r.2.clash r.2.found r.2.great] ++ [gO i64V 1 r.2.path]) := (key_subst_walker_walk K).1 (p0, p1) r h
/-! ### isochrone/subst.Apply -/
def subst_Apply (K : Nat) (p0 : NodeA) (p1 : List Api_PairA) : Option (NodeA × (List Int) × Int) := (tree_Sort K p0.op).bind fun r1 =>
 ((
  ((
   if (r1 == (0 : Int)) then
    some true
   else
    some (r1 == (4 : Int))) : Option Bool).bind (fun v5_0 =>
  if v5_0 then
   outM (
    some ((NodeA.mk (0 : Int) (⟨#[]⟩ : ByteArray) (RatA.mk false [] []) []), [], (80 : Int)))
  else
   some (.go ()))) : Option (Out Unit _)).bind (Out.fin fun _ =>
 (tree_Check K p0 r1).bind fun r9 =>
 if (r9 != (0 : Int)) then
  some ((NodeA.mk (0 : Int) (⟨#[]⟩ : ByteArray) (RatA.mk false [] []) []), [], r9)
 else
  (subst_Check K p1).bind fun r12 =>
  if (r12 != (0 : Int)) then
   some ((NodeA.mk (0 : Int) (⟨#[]⟩ : ByteArray) (RatA.mk false [] []) []), [], r12)
  else
   (subst_walker_walk K (Subst_walkerA.mk p1 none [] false false) p0).bind fun r15 =>
   if r15.2.found then
    some ((NodeA.mk (0 : Int) (⟨#[]⟩ : ByteArray) (RatA.mk false [] []) []), r15.2.clash, (170 : Int))
   else
    if r15.2.great then
     some ((NodeA.mk (0 : Int) (⟨#[]⟩ : ByteArray) (RatA.mk false [] []) []), [], (2 : Int))
    else
     (tree_Check K r15.1 r1).bind fun r19 =>
     if (r19 != (0 : Int)) then
      some ((NodeA.mk (0 : Int) (⟨#[]⟩ : ByteArray) (RatA.mk false [] []) []), [], r19)
     else
      some (r15.1, [], (0 : Int)))
set_option maxHeartbeats 4000000 in
theorem subst_Apply_ok {K : Nat} {p0 : NodeA} {p1 : List Api_PairA} {r : NodeA × (List Int) × Int} (h : subst_Apply K p0 p1 = some r) : Cn Tryz.prog 11 [aggV p0.enc, .d (slD Api_PairA.enc p1)] (.tup [aggV r.1.enc, .d (slD i64V r.2.1), .d (.val (.int .i64 r.2.2))]) := by
 refine Cn.ofA mixed Tryz.func11 rfl Tryz.call11 Tryz.ntmps11 Tryz.results11 (by simp) (by simp only [go_sem, reduceEqDiff, reduceAdd, reduceSub, reduceMul, reduceLeDiff, reduceLT, Nat.reduceBEq, reduceIte]) fun hfit => ?_
 unfold subst_Apply at h
 refine AW.kp [] [0, 1] ?_
 refine AW.op mixed ?_
 refine AW.kp [0, 1] [1, 2, 4] ?_
 refine AW.op mixed ?_
 apply obindE h; intro r1 hx2 h
 have hc := nx (tree_Sort_ok (h := hx2))
 refine callP hc ?_
 refine AW.kp [0, 1] [1, 2, 4, 7] ?_
 refine AW.one ?_
 refine obindE h fun oJ4 h hJ4 => ?_
 refine AW.join (S := Unit) (fun _ => [(1, .d (slD Api_PairA.enc p1)), (2, .ptr 0 6 0 0), (4, .ptr 1 6 0 0), (7, .d (.val (.int .i64 r1)))]) (fun _ => [some ⟨6, [[.d (.val (.int .i64 p0.op)), .d (.val (.string p0.name)), .d (.val (.bool p0.num.neg)), .d (slD u32V p0.num.num), .d (slD u32V p0.num.den), .d (slD NodeA.enc p0.kids)]]⟩, some ⟨6, [[.d (.val (.int .i64 (0 : Int))), .d (.val (.string (⟨#[]⟩ : ByteArray))), .d (.val (.bool false)), .d (.val (.slice none 0 0)), .d (.val (.slice none 0 0)), .d (.val (.slice none 0 0))]]⟩]) (fun x => oJ4 = .go x) ?_ ?_
 ·skip
  refine AW.one ?_
  refine obindE h fun oJ6 h hJ6 => ?_
  refine AW.join (S := Bool) (fun v5_0 => [(1, .d (slD Api_PairA.enc p1)), (2, .ptr 0 6 0 0), (4, .ptr 1 6 0 0), (7, .d (.val (.int .i64 r1))), (20, .d (.val (.bool v5_0)))]) (fun v5_0 => [some ⟨6, [[.d (.val (.int .i64 p0.op)), .d (.val (.string p0.name)), .d (.val (.bool p0.num.neg)), .d (slD u32V p0.num.num), .d (slD u32V p0.num.den), .d (slD NodeA.enc p0.kids)]]⟩, some ⟨6, [[.d (.val (.int .i64 (0 : Int))), .d (.val (.string (⟨#[]⟩ : ByteArray))), .d (.val (.bool false)), .d (.val (.slice none 0 0)), .d (.val (.slice none 0 0)), .d (.val (.slice none 0 0))]]⟩]) (fun x => x = oJ6) ?_ ?_
  ·skip
   refine AW.rg mixed ?_
   refine splitK_intro (fun hb7 => ?_) (fun hb7 => ?_)
   ·have h := ifT hb7 h
    try simp only [go_sem, reduceEqDiff, reduceAdd, reduceSub, reduceMul, reduceLeDiff, reduceLT, Nat.reduceBEq, reduceIte, hb7]
    refine JoinQ.mk true [0, 1] (Option.some.inj h) (by simp only [go_sem, reduceEqDiff, reduceAdd, reduceSub, reduceMul, reduceLeDiff, reduceLT, Nat.reduceBEq, reduceIte, hb7])
   have h := ifF hb7 h
   try simp only [go_sem, reduceEqDiff, reduceAdd, reduceSub, reduceMul, reduceLeDiff, reduceLT, Nat.reduceBEq, reduceIte, hb7]
   refine JoinQ.mk (r1 == (4 : Int)) [0, 1] (Option.some.inj h) (by simp only [go_sem, reduceEqDiff, reduceAdd, reduceSub, reduceMul, reduceLeDiff, reduceLT, Nat.reduceBEq, reduceIte, hb7])
  rintro v5_0 rfl
  have h := hJ6
  try dsimp only [Out.fin] at h
  refine nz ?_
  refine AW.ts v5_0 (fun hb8 => ?_) (fun hb8 => ?_)
  ·have h := ifT hb8 h
   refine AW.op mixed ?_
   refine AW.ret ?_
   obtain ⟨_, h, ho⟩ := outM_some h
   rw [ho, Out.fin_out] at hJ4
   have h := h.trans hJ4
   obtain rfl := Option.some.inj h
   refine nz ?_
   exact .tupL ⟨.aggL ⟨.same _, .same _, .same _, .nil, .nil, .nil, trivial⟩, .nil, .same _, trivial⟩
  have h := ifF hb8 h
  refine AW.sk ?_
  exact JoinQ.ar () [0, 1] (Option.some.inj h).symm
 rintro ⟨⟩ rfl
 have h := hJ4
 try dsimp only [Out.fin] at h
 refine nz ?_
 refine AW.one ?_
 refine AW.op mixed ?_
 apply obindE h; intro r9 hx10 h
 have hc := nx (tree_Check_ok (h := hx10))
 refine callP hc ?_
 refine AW.kp [0, 1] [1, 2, 4, 7, 8] ?_
 refine AW.op mixed ?_
 refine AW.kp [0, 1] [1, 2, 4, 7, 8, 26] ?_
 refine AW.ts (r9 != (0 : Int)) (fun hb11 => ?_) (fun hb11 => ?_)
 ·have h := ifT hb11 h
  refine AW.op mixed ?_
  refine AW.ret ?_
  obtain rfl := Option.some.inj h
  refine nz ?_
  exact .tupL ⟨.aggL ⟨.same _, .same _, .same _, .nil, .nil, .nil, trivial⟩, .nil, .same _, trivial⟩
 have h := ifF hb11 h
 refine AW.sk ?_
 refine AW.kp [0, 1] [1, 2, 4, 7] ?_
 refine AW.one ?_
 refine AW.op mixed ?_
 apply obindE h; intro r12 hx13 h
 have hc := nx (subst_Check_ok (h := hx13))
 refine callP hc ?_
 refine AW.kp [0, 1] [1, 2, 4, 7, 9] ?_
 refine AW.op mixed ?_
 refine AW.kp [0, 1] [1, 2, 4, 7, 9, 32] ?_
 refine AW.ts (r12 != (0 : Int)) (fun hb14 => ?_) (fun hb14 => ?_)
 ·have h := ifT hb14 h
  refine AW.op mixed ?_
  refine AW.ret ?_
  obtain rfl := Option.some.inj h
  refine nz ?_
  exact .tupL ⟨.aggL ⟨.same _, .same _, .same _, .nil, .nil, .nil, trivial⟩, .nil, .same _, trivial⟩
 have h := ifF hb14 h
 refine AW.sk ?_
 refine AW.kp [0, 1] [1, 2, 4, 7] ?_
 refine AW.op mixed ?_
 refine AW.cutS [0, 1, 4] [] [] [(4, ⟨5, [[.d (slD Api_PairA.enc p1), .d (.val (.slice none 0 0)), .d (slD i64V []), .d (.val (.bool false)), .d (.val (.bool false))]]⟩)] [(2, .ptr 0 6 0 0), (4, .ptr 1 6 0 0), (7, .d (.val (.int .i64 r1))), (10, .ptr 2 5 0 0)] [some ⟨6, [[.d (.val (.int .i64 p0.op)), .d (.val (.string p0.name)), .d (.val (.bool p0.num.neg)), .d (slD u32V p0.num.num), .d (slD u32V p0.num.den), .d (slD NodeA.enc p0.kids)]]⟩, some ⟨6, [[.d (.val (.int .i64 (0 : Int))), .d (.val (.string (⟨#[]⟩ : ByteArray))), .d (.val (.bool false)), .d (.val (.slice none 0 0)), .d (.val (.slice none 0 0)), .d (.val (.slice none 0 0))]]⟩, some ⟨5, [[.d (slD Api_PairA.enc p1), .d (.val (.slice none 0 0)), .d (slD i64V []), .d (.val (.bool false)), .d (.val (.bool false))]]⟩] (by simp only [go_sem, reduceEqDiff, reduceAdd, reduceSub, reduceMul, reduceLeDiff, reduceLT, Nat.reduceBEq, reduceIte, sealL_cons, sealL_nil]) (by simp only [go_sem, reduceEqDiff, reduceAdd, reduceSub, reduceMul, reduceLeDiff, reduceLT, Nat.reduceBEq, reduceIte, sealH_cons, sealH_nil]; exact ⟨⟨.same _, .same _, .nil, .same _, .same _, trivial⟩, trivial⟩) (by simp only [go_sem, reduceEqDiff, reduceAdd, reduceSub, reduceMul, reduceLeDiff, reduceLT, Nat.reduceBEq, reduceIte]) ?_
 refine AW.op mixed ?_
 apply obindE h; intro r15 hx16 h
 have hc := nx (subst_walker_walk_ok (h := hx16))
 refine callK_grow [2] 1000 hc (by simp only [go_sem, reduceEqDiff, reduceAdd, reduceSub, reduceMul, reduceLeDiff, reduceLT, Nat.reduceBEq, reduceIte] <;> rfl) (by simp) (by simp) (by simp only [go_sem, reduceEqDiff, reduceAdd, reduceSub, reduceMul, reduceLeDiff, reduceLT, Nat.reduceBEq, reduceIte]) ?_
 try simp only [go_sem, reduceEqDiff, reduceAdd, reduceSub, reduceMul, reduceLeDiff, reduceLT, Nat.reduceBEq, reduceIte]
 refine AW.cu [1, 2, 5] [(4, .ptr 0 6 0 0), (7, .d (.val (.int .i64 r1))), (10, .ptr 1 5 0 0)] [some ⟨6, [[.d (.val (.int .i64 r15.1.op)), .d (.val (.string r15.1.name)), .d (.val (.bool r15.1.num.neg)), .d (slD u32V r15.1.num.num), .d (slD u32V r15.1.num.den), .d (slD NodeA.enc r15.1.kids)]]⟩, some ⟨5, [[.d (slD Api_PairA.enc r15.2.pairs), gV 2 1 r15.2.path, .d (slD i64V r15.2.clash), .d (.val (.bool r15.2.found)), .d (.val (.bool r15.2.great))]]⟩, gO i64V 1 r15.2.path] ?_
 refine AW.one ?_
 refine AW.op mixed ?_
 refine AW.cu [0, 1, 2] [(4, .ptr 0 6 0 0), (7, .d (.val (.int .i64 r1))), (10, .ptr 1 5 0 0), (44, .d (.val (.bool r15.2.found)))] [some ⟨6, [[.d (.val (.int .i64 r15.1.op)), .d (.val (.string r15.1.name)), .d (.val (.bool r15.1.num.neg)), .d (slD u32V r15.1.num.num), .d (slD u32V r15.1.num.den), .d (slD NodeA.enc r15.1.kids)]]⟩, some ⟨5, [[.d (slD Api_PairA.enc r15.2.pairs), gV 2 1 r15.2.path, .d (slD i64V r15.2.clash), .d (.val (.bool r15.2.found)), .d (.val (.bool r15.2.great))]]⟩, gO i64V 1 r15.2.path] ?_
 refine AW.ts r15.2.found (fun hb17 => ?_) (fun hb17 => ?_)
 ·have h := ifT hb17 h
  refine AW.one ?_
  refine AW.reg4 (q := 5) (tq := 4) (ts := [48]) mixed (by kernel_rfl) ?_
  try simp only [go_sem, reduceEqDiff, reduceAdd, reduceSub, reduceMul, reduceLeDiff, reduceLT, Nat.reduceBEq, reduceIte]
  refine AW.ret ?_
  obtain rfl := Option.some.inj h
  refine nz ?_
  exact .tupL ⟨.aggL ⟨.same _, .same _, .same _, .nil, .nil, .nil, trivial⟩, .same _, .same _, trivial⟩
 have h := ifF hb17 h
 refine AW.sk ?_
 refine AW.cu [0, 1, 2] [(4, .ptr 0 6 0 0), (7, .d (.val (.int .i64 r1))), (10, .ptr 1 5 0 0)] [some ⟨6, [[.d (.val (.int .i64 r15.1.op)), .d (.val (.string r15.1.name)), .d (.val (.bool r15.1.num.neg)), .d (slD u32V r15.1.num.num), .d (slD u32V r15.1.num.den), .d (slD NodeA.enc r15.1.kids)]]⟩, some ⟨5, [[.d (slD Api_PairA.enc r15.2.pairs), gV 2 1 r15.2.path, .d (slD i64V r15.2.clash), .d (.val (.bool r15.2.found)), .d (.val (.bool r15.2.great))]]⟩, gO i64V 1 r15.2.path] ?_
 refine AW.one ?_
 refine AW.op mixed ?_
 refine AW.kp [0] [4, 7, 53] ?_
 refine AW.ts r15.2.great (fun hb18 => ?_) (fun hb18 => ?_)
 ·have h := ifT hb18 h
  refine AW.op mixed ?_
  refine AW.ret ?_
  obtain rfl := Option.some.inj h
  refine nz ?_
  exact .tupL ⟨.aggL ⟨.same _, .same _, .same _, .nil, .nil, .nil, trivial⟩, .nil, .same _, trivial⟩
 have h := ifF hb18 h
 refine AW.sk ?_
 refine AW.kp [0] [4, 7] ?_
 refine AW.one ?_
 refine AW.op mixed ?_
 apply obindE h; intro r19 hx20 h
 have hc := nx (tree_Check_ok (h := hx20))
 refine callP hc ?_
 refine AW.kp [0] [4, 11] ?_
 refine AW.op mixed ?_
 refine AW.kp [0] [4, 11, 59] ?_
 refine AW.ts (r19 != (0 : Int)) (fun hb21 => ?_) (fun hb21 => ?_)
 ·have h := ifT hb21 h
  refine AW.op mixed ?_
  refine AW.ret ?_
  obtain rfl := Option.some.inj h
  refine nz ?_
  exact .tupL ⟨.aggL ⟨.same _, .same _, .same _, .nil, .nil, .nil, trivial⟩, .nil, .same _, trivial⟩
 have h := ifF hb21 h
 refine AW.sk ?_
 refine AW.kp [0] [4] ?_
 refine AW.op mixed ?_
 refine AW.ret ?_
 obtain rfl := Option.some.inj h
 refine nz ?_
 exact .tupL ⟨.same _, .nil, .same _, trivial⟩
/-! ### isochrone/isochronelaw17.awake -/
def law17_awake (K : Nat)  : Option Bool := (subst_Apply K (NodeA.mk (22 : Int) (⟨#[]⟩ : ByteArray) (RatA.mk false [] []) [(NodeA.mk (10 : Int) (⟨#[102]⟩ : ByteArray) (RatA.mk false [] []) []), (NodeA.mk (10 : Int) (⟨#[102]⟩ : ByteArray) (RatA.mk false [] []) [])]) [(Api_PairA.mk (NodeA.mk (10 : Int) (⟨#[102]⟩ : ByteArray) (RatA.mk false [] []) []) (NodeA.mk (2 : Int) (⟨#[120]⟩ : ByteArray) (RatA.mk false [] []) []) [])]).bind fun r1 =>
 (subst_Apply K (NodeA.mk (33 : Int) (⟨#[120]⟩ : ByteArray) (RatA.mk false [] []) [(NodeA.mk (22 : Int) (⟨#[]⟩ : ByteArray) (RatA.mk false [] []) [(NodeA.mk (10 : Int) (⟨#[102]⟩ : ByteArray) (RatA.mk false [] []) []), (NodeA.mk (10 : Int) (⟨#[102]⟩ : ByteArray) (RatA.mk false [] []) [])])]) [(Api_PairA.mk (NodeA.mk (10 : Int) (⟨#[102]⟩ : ByteArray) (RatA.mk false [] []) []) (NodeA.mk (2 : Int) (⟨#[120]⟩ : ByteArray) (RatA.mk false [] []) []) [])]).bind fun r3 =>
 (subst_Check K [(Api_PairA.mk (NodeA.mk (10 : Int) (⟨#[102]⟩ : ByteArray) (RatA.mk false [] []) []) (NodeA.mk (2 : Int) (⟨#[120]⟩ : ByteArray) (RatA.mk false [] []) []) [])]).bind fun r5 =>
 if (r5 == (0 : Int)) then
  if (r1.2.2 == (0 : Int)) then
   (r08_Equal K r1.1 (NodeA.mk (22 : Int) (⟨#[]⟩ : ByteArray) (RatA.mk false [] []) [(NodeA.mk (2 : Int) (⟨#[120]⟩ : ByteArray) (RatA.mk false [] []) []), (NodeA.mk (2 : Int) (⟨#[120]⟩ : ByteArray) (RatA.mk false [] []) [])])).bind fun r9 =>
   if r9 then
    if (r3.2.2 == (170 : Int)) then
     some ((r3.2.1.length : Int) == (0 : Int))
    else
     some false
   else
    some false
  else
   some false
 else
  some false
set_option maxHeartbeats 4000000 in
theorem law17_awake_ok {K : Nat}  {r : Bool} (h : law17_awake K  = some r) : Cn Tryz.prog 5 [] (.d (.val (.bool r))) := by
 refine Cn.oz Tryz.func5 Tryz.call5 Tryz.ntmps5 Tryz.results5 fun hfit => ?_
 unfold law17_awake at h
 refine AW.kr [] [] ?_
 refine AW.kr [] [] ?_
 refine AW.kr [2, 3] [1, 2] ?_
 refine AW.kr [0, 1, 6] [1, 2, 3] ?_
 refine AW.kr [0, 1, 2, 6] [1, 2, 3, 4] ?_
 refine AW.kr [1, 2, 3] [2, 3, 4, 5] ?_
 apply bE h; intro r1 hx2 h
 have hc := subst_Apply_ok (h := hx2)
 try simp only [slD, NodeA.enc_eta, RatA.enc_eta, NodeA.op_mk, NodeA.name_mk, NodeA.num_mk, NodeA.kids_mk, aggV, i64V, u32V, strV, List.map_cons, List.map_nil] at hc
 refine callK_conv hc ⟨.aggL ⟨.same _, .same _, .same _, .nil, .nil, .d (.dn (.rows (by (try simp only [slD, NodeA.enc_eta, RatA.enc_eta, NodeA.op_mk, NodeA.name_mk, NodeA.num_mk, NodeA.kids_mk, aggV, i64V, u32V, strV, List.map_cons, List.map_nil]); exact ⟨⟨.refl _, .refl _, .refl _, .nil _ _, .nil _ _, .nil _ _, trivial⟩, ⟨.refl _, .refl _, .refl _, .nil _ _, .nil _ _, .nil _ _, trivial⟩, trivial⟩))), trivial⟩, .d (.dn (.rows (by (try simp only [slD, NodeA.enc_eta, RatA.enc_eta, NodeA.op_mk, NodeA.name_mk, NodeA.num_mk, NodeA.kids_mk, aggV, i64V, u32V, strV, List.map_cons, List.map_nil]); exact ⟨⟨.refl _, .refl _, .refl _, .nil _ _, .nil _ _, .nil _ _, .refl _, .refl _, .refl _, .nil _ _, .nil _ _, .nil _ _, .nil _ _, trivial⟩, trivial⟩))), trivial⟩ (by simp only [go_sem, reduceEqDiff, reduceAdd, reduceSub, reduceMul, reduceLeDiff, reduceLT, Nat.reduceBEq, reduceIte]) ?_
 refine ns ?_
 refine AW.kr [0, 2, 10] [2, 4, 5, 6, 8] ?_
 apply bE h; intro r3 hx4 h
 have hc := subst_Apply_ok (h := hx4)
 try simp only [slD, NodeA.enc_eta, RatA.enc_eta, NodeA.op_mk, NodeA.name_mk, NodeA.num_mk, NodeA.kids_mk, aggV, i64V, u32V, strV, List.map_cons, List.map_nil] at hc
 refine callK_conv hc ⟨.aggL ⟨.same _, .same _, .same _, .nil, .nil, .d (.dn (.rows (by (try simp only [slD, NodeA.enc_eta, RatA.enc_eta, NodeA.op_mk, NodeA.name_mk, NodeA.num_mk, NodeA.kids_mk, aggV, i64V, u32V, strV, List.map_cons, List.map_nil]); exact ⟨⟨.refl _, .refl _, .refl _, .nil _ _, .nil _ _, .rows (by (try simp only [slD, NodeA.enc_eta, RatA.enc_eta, NodeA.op_mk, NodeA.name_mk, NodeA.num_mk, NodeA.kids_mk, aggV, i64V, u32V, strV, List.map_cons, List.map_nil]); exact ⟨⟨.refl _, .refl _, .refl _, .nil _ _, .nil _ _, .nil _ _, trivial⟩, ⟨.refl _, .refl _, .refl _, .nil _ _, .nil _ _, .nil _ _, trivial⟩, trivial⟩), trivial⟩, trivial⟩))), trivial⟩, .d (.dn (.rows (by (try simp only [slD, NodeA.enc_eta, RatA.enc_eta, NodeA.op_mk, NodeA.name_mk, NodeA.num_mk, NodeA.kids_mk, aggV, i64V, u32V, strV, List.map_cons, List.map_nil]); exact ⟨⟨.refl _, .refl _, .refl _, .nil _ _, .nil _ _, .nil _ _, .refl _, .refl _, .refl _, .nil _ _, .nil _ _, .nil _ _, .nil _ _, trivial⟩, trivial⟩))), trivial⟩ (by simp only [go_sem, reduceEqDiff, reduceAdd, reduceSub, reduceMul, reduceLeDiff, reduceLT, Nat.reduceBEq, reduceIte]) ?_
 refine ns ?_
 refine AW.kr [0, 2] [2, 5, 6, 8, 10, 11] ?_
 apply bE h; intro r5 hx6 h
 have hc := subst_Check_ok (h := hx6)
 try simp only [slD, NodeA.enc_eta, RatA.enc_eta, NodeA.op_mk, NodeA.name_mk, NodeA.num_mk, NodeA.kids_mk, aggV, i64V, u32V, strV, List.map_cons, List.map_nil] at hc
 refine callK_conv hc ⟨.d (.dn (.rows (by (try simp only [slD, NodeA.enc_eta, RatA.enc_eta, NodeA.op_mk, NodeA.name_mk, NodeA.num_mk, NodeA.kids_mk, aggV, i64V, u32V, strV, List.map_cons, List.map_nil]); exact ⟨⟨.refl _, .refl _, .refl _, .nil _ _, .nil _ _, .nil _ _, .refl _, .refl _, .refl _, .nil _ _, .nil _ _, .nil _ _, .nil _ _, trivial⟩, trivial⟩))), trivial⟩ (by simp only [go_sem, reduceEqDiff, reduceAdd, reduceSub, reduceMul, reduceLeDiff, reduceLT, Nat.reduceBEq, reduceIte]) ?_
 refine ns ?_
 refine sK h (fun hb7 h => ?_) fun hb7 h => ?_
 ·refine sK h (fun hb8 h => ?_) fun hb8 h => ?_
  ·apply bE h; intro r9 hx10 h
   have hc := r08_Equal_ok (h := hx10)
   try simp only [slD, NodeA.enc_eta, RatA.enc_eta, NodeA.op_mk, NodeA.name_mk, NodeA.num_mk, NodeA.kids_mk, aggV, i64V, u32V, strV, List.map_cons, List.map_nil] at hc
   refine callK_conv hc ⟨.same _, .aggL ⟨.same _, .same _, .same _, .nil, .nil, .d (.dn (.rows (by (try simp only [slD, NodeA.enc_eta, RatA.enc_eta, NodeA.op_mk, NodeA.name_mk, NodeA.num_mk, NodeA.kids_mk, aggV, i64V, u32V, strV, List.map_cons, List.map_nil]); exact ⟨⟨.refl _, .refl _, .refl _, .nil _ _, .nil _ _, .nil _ _, trivial⟩, ⟨.refl _, .refl _, .refl _, .nil _ _, .nil _ _, .nil _ _, trivial⟩, trivial⟩))), trivial⟩, trivial⟩ (by simp only [go_sem, reduceEqDiff, reduceAdd, reduceSub, reduceMul, reduceLeDiff, reduceLT, Nat.reduceBEq, reduceIte]) ?_
   refine ns ?_
   refine sK h (fun hb11 h => ?_) fun hb11 h => ?_
   ·refine sK h (fun hb12 h => ?_) fun hb12 h => ?_
    ·refine AW.ret ?_
     cases h; refine nz ?_; exact .same _
    refine AW.ret ?_
    cases h; refine nz ?_; exact .same _
   refine AW.ret ?_
   cases h; refine nz ?_; exact .same _
  refine AW.ret ?_
  cases h; refine nz ?_; exact .same _
 refine AW.ret ?_
 cases h; refine nz ?_; exact .same _
/-! ### isochrone/isochroneref08.Size -/
def r08_Size_body (K : Nat) (self6 : NodeA → Option Int) (p0 : NodeA) : Option Int := ((iter (S := Int × Int) (R := Int) K (fun again (i1_0, i1_1) =>
  if (decide (i1_1 < (p0.kids.length : Int))) then
   (idx p0.kids i1_1).bind fun x6 =>
   (self6 (x6)).bind fun r8 =>
   again (IntKind.wrap .i64 (i1_0 + r8), IntKind.wrap .i64 (i1_1 + (1 : Int)))
  else
   some i1_0) ((1 : Int), (0 : Int))) : Option Int).bind (fun e2_0 =>
 some e2_0)
set_option maxHeartbeats 4000000 in
theorem r08_Size_step (K : Nat) (self6 : NodeA → Option Int) (hself6 : ∀ (q : NodeA) (r : Int), self6 q = some r → Cn Tryz.prog 6 [aggV q.enc] (.d (.val (.int .i64 r)))) (p0 : NodeA) (r : Int) (h : r08_Size_body K self6 p0 = some r) : Cn Tryz.prog 6 [aggV p0.enc] (.d (.val (.int .i64 r))) := by
 refine Cn.oz Tryz.func6 Tryz.call6 Tryz.ntmps6 Tryz.results6 fun hfit => ?_
 unfold r08_Size_body at h
 refine AW.kr [] [0] ?_
 refine AW.kr [0] [1] ?_
 refine AW.ks [0] [1, 3] ?_
 refine AW.one ?_
 refine AW.ro ?_
 refine AW.ks [0] [1, 3, 4] ?_
 refine AW.lm h (fun e2_0 => [(3, vI e2_0)]) (fun e2_0 => []) (fun (i1_0, i1_1) => [(1, .ptr 0 6 0 0), (3, vI i1_0), (4, vI i1_1)]) (fun (i1_0, i1_1) => [vE p0.enc]) [0] (fun oJ4 again ⟨i1_0, i1_1⟩ h => ?_) fun e2_0 h => ?_
 ·try dsimp only at h
  refine AW.one ?_
  refine AW.ro ?_
  refine AW.ks [0] [1, 3, 4, 9] ?_
  refine AW.tt h (fun hb5 h => ?_) fun hb5 h => ?_
  ·refine AW.sk ?_
   refine AW.ks [0] [1, 3, 4] ?_
   refine AW.one ?_
   refine AW.block ?_
   refine AW.rp ?_
   refine bx h fun x6 h0 h1 h => ?_
   refine cm h (hself6 _ _) fun r8 hx9 h => ?_
   refine AW.ks [0] [1, 3, 4] ?_
   refine AW.rp ?_
   exact na [0] h
  refine AW.ex ?_
  exact ja [] h
 refine AW.kr [] [3] ?_
 refine AW.ret ?_
 cases h; refine nz ?_; exact .same _
def r08_Size (K : Nat) (p0 : NodeA) : Option Int := iter K (fun self q => r08_Size_body K self q) p0
theorem key_r08_Size {K : Nat} (k : Nat) : (∀ (q : NodeA) (r : Int), iter k (fun self q => r08_Size_body K self q) q = some r → Cn Tryz.prog 6 [aggV q.enc] (.d (.val (.int .i64 r)))) := by
 induction k with
 | zero => exact fun q r h => by cases h
 | succ k ih => exact fun q r h => r08_Size_step K _ ih q r h
theorem r08_Size_ok {K : Nat} {p0 : NodeA} {r : Int} (h : r08_Size K p0 = some r) : Cn Tryz.prog 6 [aggV p0.enc] (.d (.val (.int .i64 r))) := (key_r08_Size K) p0 r h
/-! ### isochrone/isochronelaw17.light -/
def law17_light (K : Nat) (p0 : List Api_PairA) : Option Bool := ((iter (S := Int × Int) (R := Out Int _) K (fun again (i1_0, i1_1) =>
  ((
   ((
    if (decide (i1_1 < (p0.length : Int))) then
     some (decide (i1_1 < (60 : Int)))
    else
     some false) : Option Bool).bind (fun v7_0 =>
   if v7_0 then
    some (.go ())
   else
    outM (
     some (.go i1_0)))) : Option (Out Unit _)).bind (Out.fin fun _ =>
  (idx p0 i1_1).bind fun x11 =>
  (r08_Size K x11.what).bind fun r13 =>
  (r08_Size K x11.with_).bind fun r15 =>
  ((iter (S := Int × Int) (R := Int) K (fun again (i17_0, i17_1) =>
   ((
    ((
     if (decide (i17_1 < (x11.rates.length : Int))) then
      some (decide (i17_1 < (60 : Int)))
     else
      some false) : Option Bool).bind (fun v23_0 =>
    if v23_0 then
     some (.go ())
    else
     outM (
      some i17_0))) : Option (Out Unit _)).bind (Out.fin fun _ =>
   (idx x11.rates i17_1).bind fun x27 =>
   (r08_Size K x27).bind fun r29 =>
   again (IntKind.wrap .i64 (i17_0 + r29), IntKind.wrap .i64 (i17_1 + (1 : Int))))) (IntKind.wrap .i64 (i1_0 + (IntKind.wrap .i64 (r13 + r15))), (0 : Int))) : Option Int).bind (fun e18_0 =>
  if (decide ((60 : Int) < (x11.rates.length : Int))) then
   outM (
    some false)
  else
   again (e18_0, IntKind.wrap .i64 (i1_1 + (1 : Int)))))) ((0 : Int), (0 : Int))) : Option (Out Int _)).bind (Out.fin fun e2_0 =>
 if (decide ((p0.length : Int) ≤ (60 : Int))) then
  some (decide (e2_0 ≤ (600 : Int)))
 else
  some false)
set_option maxHeartbeats 4000000 in
theorem law17_light_ok {K : Nat} {p0 : List Api_PairA} {r : Bool} (h : law17_light K p0 = some r) : Cn Tryz.prog 7 [.d (slD Api_PairA.enc p0)] (.d (.val (.bool r))) := by
 refine Cn.oz Tryz.func7 Tryz.call7 Tryz.ntmps7 Tryz.results7 fun hfit => ?_
 unfold law17_light at h
 refine AW.kr [] [0] ?_
 refine AW.kr [] [0] ?_
 refine AW.ks [] [0, 3] ?_
 refine AW.one ?_
 refine AW.ro ?_
 refine AW.ks [] [0, 3, 4] ?_
 refine AW.lp h (fun e2_0 => [(0, vL Api_PairA.enc p0), (3, vI e2_0)]) (fun e2_0 => []) (fun (i1_0, i1_1) => [(0, vL Api_PairA.enc p0), (3, vI i1_0), (4, vI i1_1)]) (fun (i1_0, i1_1) => []) [] (fun oJ4 hJ4 again ⟨i1_0, i1_1⟩ h => ?_) fun e2_0 h => ?_
 ·try dsimp only at h
  refine AW.jo h (fun _ => [(0, vL Api_PairA.enc p0), (3, vI i1_0), (4, vI i1_1)]) (fun _ => []) (fun oJ6 h hJ6 => ?_) fun ⟨⟩ h => ?_
  ·refine AW.jn h (fun v7_0 => [(0, vL Api_PairA.enc p0), (3, vI i1_0), (4, vI i1_1), (13, vB v7_0)]) (fun v7_0 => []) (fun oJ8 h => ?_) fun v7_0 h => ?_
   ·refine AW.rp ?_
    refine sK h (fun hb9 h => ?_) fun hb9 h => ?_
    ·exact ja [] h
    exact ja [] h
   refine AW.tt h (fun hb10 h => ?_) fun hb10 h => ?_
   ·refine AW.sk ?_
    exact jo [] h
   refine AW.ex ?_
   have h := up h hJ6
   exact jo [] h
  refine AW.one ?_
  refine AW.block ?_
  refine AW.ro ?_
  refine bx h fun x11 h0 h1 h => ?_
  refine pm h r08_Size_ok fun r13 hx14 h => ?_
  refine pm h r08_Size_ok fun r15 hx16 h => ?_
  refine AW.ks [] [0, 3, 4] ?_
  refine AW.one ?_
  refine AW.ro ?_
  refine AW.ks [] [0, 3, 4, 5] ?_
  refine AW.lm h (fun e18_0 => [(0, vL Api_PairA.enc p0), (3, vI e18_0), (4, vI i1_1)]) (fun e18_0 => []) (fun (i17_0, i17_1) => [(0, vL Api_PairA.enc p0), (3, vI i17_0), (4, vI i1_1), (5, vI i17_1)]) (fun (i17_0, i17_1) => []) [] (fun oJ20 again ⟨i17_0, i17_1⟩ h => ?_) fun e18_0 h => ?_
  ·try dsimp only at h
   refine AW.jo h (fun _ => [(0, vL Api_PairA.enc p0), (3, vI i17_0), (4, vI i1_1), (5, vI i17_1)]) (fun _ => []) (fun oJ22 h hJ22 => ?_) fun ⟨⟩ h => ?_
   ·refine AW.jn h (fun v23_0 => [(0, vL Api_PairA.enc p0), (3, vI i17_0), (4, vI i1_1), (5, vI i17_1), (42, vB v23_0)]) (fun v23_0 => []) (fun oJ24 h => ?_) fun v23_0 h => ?_
    ·refine AW.rp ?_
     refine sK h (fun hb25 h => ?_) fun hb25 h => ?_
     ·exact ja [] h
     exact ja [] h
    refine AW.tt h (fun hb26 h => ?_) fun hb26 h => ?_
    ·refine AW.sk ?_
     exact jo [] h
    refine AW.ex ?_
    have h := up h hJ22
    exact ja [] h
   refine AW.one ?_
   refine AW.block ?_
   refine AW.rp ?_
   refine bx h fun x27 h0 h1 h => ?_
   refine cm h r08_Size_ok fun r29 hx30 h => ?_
   refine AW.ks [] [0, 3, 4, 5] ?_
   refine AW.rp ?_
   exact na [] h
  refine AW.kr [] [0, 3, 4] ?_
  refine AW.ks [] [0, 3, 4, 62] ?_
  refine AW.tk h (fun hb31 h => ?_) fun hb31 h => ?_
  ·refine AW.ro ?_
   refine AW.ret ?_
   have h := up h hJ4
   cases h; refine nz ?_; exact .same _
  refine AW.ks [] [0, 3, 4] ?_
  refine AW.rp ?_
  exact na [] h
 refine AW.kr [] [0, 3] ?_
 refine sK h (fun hb32 h => ?_) fun hb32 h => ?_
 ·refine AW.ret ?_
  cases h; refine nz ?_; exact .same _
 refine AW.ret ?_
 cases h; refine nz ?_; exact .same _
/-! ### isochrone/isochroneref08.Levels -/
def r08_Levels_body (K : Nat) (self70 : NodeA → Option Int) (p0 : NodeA) : Option Int := ((iter (S := Int × Int) (R := Int) K (fun again (i1_0, i1_1) =>
  if (decide (i1_1 < (p0.kids.length : Int))) then
   (idx p0.kids i1_1).bind fun x6 =>
   (self70 (x6)).bind fun r8 =>
   again ((if r8 > i1_0 then r8 else i1_0), IntKind.wrap .i64 (i1_1 + (1 : Int)))
  else
   some i1_0) ((0 : Int), (0 : Int))) : Option Int).bind (fun e2_0 =>
 some (IntKind.wrap .i64 (e2_0 + (1 : Int))))
set_option maxHeartbeats 4000000 in
theorem r08_Levels_step (K : Nat) (self70 : NodeA → Option Int) (hself70 : ∀ (q : NodeA) (r : Int), self70 q = some r → Cn Tryz.prog 70 [aggV q.enc] (.d (.val (.int .i64 r)))) (p0 : NodeA) (r : Int) (h : r08_Levels_body K self70 p0 = some r) : Cn Tryz.prog 70 [aggV p0.enc] (.d (.val (.int .i64 r))) := by
 refine Cn.oz Tryz.func70 Tryz.call70 Tryz.ntmps70 Tryz.results70 fun hfit => ?_
 unfold r08_Levels_body at h
 refine AW.kr [] [0] ?_
 refine AW.kr [0] [1] ?_
 refine AW.ks [0] [1, 3] ?_
 refine AW.one ?_
 refine AW.ro ?_
 refine AW.ks [0] [1, 3, 4] ?_
 refine AW.lm h (fun e2_0 => [(3, vI e2_0)]) (fun e2_0 => []) (fun (i1_0, i1_1) => [(1, .ptr 0 6 0 0), (3, vI i1_0), (4, vI i1_1)]) (fun (i1_0, i1_1) => [vE p0.enc]) [0] (fun oJ4 again ⟨i1_0, i1_1⟩ h => ?_) fun e2_0 h => ?_
 ·try dsimp only at h
  refine AW.one ?_
  refine AW.ro ?_
  refine AW.ks [0] [1, 3, 4, 9] ?_
  refine AW.tt h (fun hb5 h => ?_) fun hb5 h => ?_
  ·refine AW.sk ?_
   refine AW.ks [0] [1, 3, 4] ?_
   refine AW.one ?_
   refine AW.block ?_
   refine AW.rp ?_
   refine bx h fun x6 h0 h1 h => ?_
   refine cm h (hself70 _ _) fun r8 hx9 h => ?_
   refine AW.ks [0] [1, 3, 4] ?_
   refine AW.rp ?_
   exact na [0] h
  refine AW.ex ?_
  exact ja [] h
 refine AW.kr [] [3] ?_
 refine AW.ret ?_
 cases h; refine nz ?_; exact .same _
def r08_Levels (K : Nat) (p0 : NodeA) : Option Int := iter K (fun self q => r08_Levels_body K self q) p0
theorem key_r08_Levels {K : Nat} (k : Nat) : (∀ (q : NodeA) (r : Int), iter k (fun self q => r08_Levels_body K self q) q = some r → Cn Tryz.prog 70 [aggV q.enc] (.d (.val (.int .i64 r)))) := by
 induction k with
 | zero => exact fun q r h => by cases h
 | succ k ih => exact fun q r h => r08_Levels_step K _ ih q r h
theorem r08_Levels_ok {K : Nat} {p0 : NodeA} {r : Int} (h : r08_Levels K p0 = some r) : Cn Tryz.prog 70 [aggV p0.enc] (.d (.val (.int .i64 r))) := (key_r08_Levels K) p0 r h
/-! ### isochrone/isochroneref08.Sort -/
def r08_Sort (K : Nat) (p0 : Int) : Option Int := ((
  if (decide ((1 : Int) ≤ p0)) then
   some (decide (p0 ≤ (13 : Int)))
  else
   some false) : Option Bool).bind (fun v1_0 =>
 if v1_0 then
  some (1 : Int)
 else
  ((
   if (decide ((20 : Int) ≤ p0)) then
    some (decide (p0 ≤ (39 : Int)))
   else
    some false) : Option Bool).bind (fun v5_0 =>
  if v5_0 then
   some (2 : Int)
  else
   ((
    if (p0 == (55 : Int)) then
     some true
    else
     some (p0 == (56 : Int))) : Option Bool).bind (fun v9_0 =>
   if v9_0 then
    some (4 : Int)
   else
    ((
     if (decide ((50 : Int) ≤ p0)) then
      some (decide (p0 ≤ (62 : Int)))
     else
      some false) : Option Bool).bind (fun v13_0 =>
    if v13_0 then
     some (3 : Int)
    else
     some (0 : Int)))))
set_option maxHeartbeats 4000000 in
theorem r08_Sort_ok {K : Nat} {p0 : Int} {r : Int} (h : r08_Sort K p0 = some r) : Cn Tryz.prog 28 [.d (.val (.int .i64 p0))] (.d (.val (.int .i64 r))) := by
 refine Cn.oz Tryz.func28 Tryz.call28 Tryz.ntmps28 Tryz.results28 fun hfit => ?_
 unfold r08_Sort at h
 refine AW.kr [] [0] ?_
 refine AW.ks [] [0] ?_
 refine AW.one ?_
 refine AW.block ?_
 refine AW.jn h (fun v1_0 => [(0, vI p0), (3, vB v1_0)]) (fun v1_0 => []) (fun oJ2 h => ?_) fun v1_0 h => ?_
 ·refine AW.rp ?_
  refine sK h (fun hb3 h => ?_) fun hb3 h => ?_
  ·exact ja [] h
  exact ja [] h
 refine AW.tt h (fun hb4 h => ?_) fun hb4 h => ?_
 ·refine AW.ro ?_
  refine AW.ret ?_
  cases h; refine nz ?_; exact .same _
 refine AW.jn h (fun v5_0 => [(0, vI p0), (10, vB v5_0)]) (fun v5_0 => []) (fun oJ6 h => ?_) fun v5_0 h => ?_
 ·refine AW.rp ?_
  refine sK h (fun hb7 h => ?_) fun hb7 h => ?_
  ·exact ja [] h
  exact ja [] h
 refine AW.tt h (fun hb8 h => ?_) fun hb8 h => ?_
 ·refine AW.ro ?_
  refine AW.ret ?_
  cases h; refine nz ?_; exact .same _
 refine AW.jn h (fun v9_0 => [(0, vI p0), (17, vB v9_0)]) (fun v9_0 => []) (fun oJ10 h => ?_) fun v9_0 h => ?_
 ·refine AW.rp ?_
  refine sK h (fun hb11 h => ?_) fun hb11 h => ?_
  ·exact ja [] h
  exact ja [] h
 refine AW.tt h (fun hb12 h => ?_) fun hb12 h => ?_
 ·refine AW.ro ?_
  refine AW.ret ?_
  cases h; refine nz ?_; exact .same _
 refine AW.jn h (fun v13_0 => [(24, vB v13_0)]) (fun v13_0 => []) (fun oJ14 h => ?_) fun v13_0 h => ?_
 ·refine AW.rp ?_
  refine sK h (fun hb15 h => ?_) fun hb15 h => ?_
  ·exact ja [] h
  exact ja [] h
 refine AW.tk h (fun hb16 h => ?_) fun hb16 h => ?_
 ·refine AW.ro ?_
  refine AW.ret ?_
  cases h; refine nz ?_; exact .same _
 refine AW.kr [] [] ?_
 refine AW.ret ?_
 cases h; refine nz ?_; exact .same _
/-! ### isochrone/isochroneref08.letter -/
def r08_letter (K : Nat) (p0 : Int) : Option Bool := if (decide ((97 : Int) ≤ p0)) then
  if (decide (p0 ≤ (122 : Int))) then
   some true
  else
   if (decide ((65 : Int) ≤ p0)) then
    some (decide (p0 ≤ (90 : Int)))
   else
    some false
 else
  if (decide ((65 : Int) ≤ p0)) then
   some (decide (p0 ≤ (90 : Int)))
  else
   some false
set_option maxHeartbeats 4000000 in
theorem r08_letter_ok {K : Nat} {p0 : Int} {r : Bool} (h : r08_letter K p0 = some r) : Cn Tryz.prog 128 [.d (.val (.int .u8 p0))] (.d (.val (.bool r))) := by
 refine Cn.oz Tryz.func128 Tryz.call128 Tryz.ntmps128 Tryz.results128 fun hfit => ?_
 unfold r08_letter at h
 refine AW.kr [] [0] ?_
 refine AW.kr [] [0] ?_
 refine sK h (fun hb1 h => ?_) fun hb1 h => ?_
 ·refine sK h (fun hb2 h => ?_) fun hb2 h => ?_
  ·refine AW.ret ?_
   cases h; refine nz ?_; exact .same _
  refine sK h (fun hb3 h => ?_) fun hb3 h => ?_
  ·refine AW.ret ?_
   cases h; refine nz ?_; exact .same _
  refine AW.ret ?_
  cases h; refine nz ?_; exact .same _
 refine sK h (fun hb4 h => ?_) fun hb4 h => ?_
 ·refine AW.ret ?_
  cases h; refine nz ?_; exact .same _
 refine AW.ret ?_
 cases h; refine nz ?_; exact .same _
/-! ### isochrone/isochroneref08.Name -/
def r08_Name (K : Nat) (p0 : ByteArray) : Option Bool := ((
  ((
   if ((p0.size : Int) == (0 : Int)) then
    some true
   else
    if (decide ((12 : Int) < (p0.size : Int))) then
     some true
    else
     if (p0.toList == (⟨#[116, 114, 117, 101]⟩ : ByteArray).toList) then
      some true
     else
      if (p0.toList == (⟨#[102, 97, 108, 115, 101]⟩ : ByteArray).toList) then
       some true
      else
       if (p0.toList == (⟨#[102, 111, 114, 97, 108, 108]⟩ : ByteArray).toList) then
        some true
       else
        some (p0.toList == (⟨#[101, 120, 105, 115, 116, 115]⟩ : ByteArray).toList)) : Option Bool).bind (fun v3_0 =>
  if v3_0 then
   outM (
    some false)
  else
   some (.go ()))) : Option (Out Unit _)).bind (Out.fin fun _ =>
 ((iter (S := Int) (R := Out Unit _) K (fun again i11_0 =>
  if (decide (i11_0 < (p0.size : Int))) then
   ((
    ((
     (strAt p0 i11_0).bind fun c20 =>
     (r08_letter K (c20.toNat : Int)).bind fun r22 =>
     if (!r22) then
      if (i11_0 == (0 : Int)) then
       some true
      else
       if (decide ((c20.toNat : Int) < (48 : Int))) then
        some true
       else
        some (decide ((57 : Int) < (c20.toNat : Int)))
     else
      some false) : Option Bool).bind (fun v18_0 =>
    if v18_0 then
     outM (
      outM (
       some false))
    else
     some (.go ()))) : Option (Out Unit _)).bind (Out.fin fun _ =>
   again (IntKind.wrap .i64 (i11_0 + (1 : Int))))
  else
   some (.go ())) (0 : Int)) : Option (Out Unit _)).bind (Out.fin fun _ =>
 some true))
set_option maxHeartbeats 4000000 in
theorem r08_Name_ok {K : Nat} {p0 : ByteArray} {r : Bool} (h : r08_Name K p0 = some r) : Cn Tryz.prog 80 [.d (.val (.string p0))] (.d (.val (.bool r))) := by
 refine Cn.oz Tryz.func80 Tryz.call80 Tryz.ntmps80 Tryz.results80 fun hfit => ?_
 unfold r08_Name at h
 refine AW.kr [] [0] ?_
 refine AW.ks [] [0] ?_
 refine AW.jo h (fun _ => [(0, vS p0)]) (fun _ => []) (fun oJ2 h hJ2 => ?_) fun ⟨⟩ h => ?_
 ·refine AW.jn h (fun v3_0 => [(0, vS p0), (27, vB v3_0)]) (fun v3_0 => []) (fun oJ4 h => ?_) fun v3_0 h => ?_
  ·refine AW.rp ?_
   refine sK h (fun hb5 h => ?_) fun hb5 h => ?_
   ·exact ja [] h
   refine sK h (fun hb6 h => ?_) fun hb6 h => ?_
   ·exact ja [] h
   refine sK h (fun hb7 h => ?_) fun hb7 h => ?_
   ·exact ja [] h
   refine sK h (fun hb8 h => ?_) fun hb8 h => ?_
   ·exact ja [] h
   refine sK h (fun hb9 h => ?_) fun hb9 h => ?_
   ·exact ja [] h
   exact ja [] h
  refine AW.tk h (fun hb10 h => ?_) fun hb10 h => ?_
  ·refine AW.ro ?_
   refine AW.ret ?_
   have h := up h hJ2
   cases h; refine nz ?_; exact .same _
  exact jo [] h
 refine AW.one ?_
 refine AW.ro ?_
 refine AW.ks [] [0, 3] ?_
 refine AW.lp h (fun _ => []) (fun _ => []) (fun i11_0 => [(0, vS p0), (3, vI i11_0)]) (fun i11_0 => []) [] (fun oJ14 hJ14 again i11_0 h => ?_) fun ⟨⟩ h => ?_
 ·refine AW.one ?_
  refine AW.ro ?_
  refine AW.ks [] [0, 3, 31] ?_
  refine AW.tt h (fun hb15 h => ?_) fun hb15 h => ?_
  ·refine AW.sk ?_
   refine AW.ks [] [0, 3] ?_
   refine AW.jo h (fun _ => [(0, vS p0), (3, vI i11_0)]) (fun _ => []) (fun oJ17 h hJ17 => ?_) fun ⟨⟩ h => ?_
   ·refine AW.block ?_
    refine AW.jn h (fun v18_0 => [(0, vS p0), (3, vI i11_0), (54, vB v18_0)]) (fun v18_0 => []) (fun oJ19 h => ?_) fun v18_0 h => ?_
    ·refine AW.rp ?_
     refine bb h fun c20 hx21 h => ?_
     refine cm h r08_letter_ok fun r22 hx23 h => ?_
     refine sK h (fun hb24 h => ?_) fun hb24 h => ?_
     ·refine sK h (fun hb25 h => ?_) fun hb25 h => ?_
      ·exact ja [] h
      refine sK h (fun hb26 h => ?_) fun hb26 h => ?_
      ·exact ja [] h
      exact ja [] h
     exact ja [] h
    refine AW.tk h (fun hb27 h => ?_) fun hb27 h => ?_
    ·refine AW.ro ?_
     refine AW.ret ?_
     have h := up h hJ17
     have h := up h hJ14
     cases h; refine nz ?_; exact .same _
    exact jo [] h
   refine AW.rp ?_
   exact na [] h
  refine AW.ex ?_
  exact jo [] h
 refine AW.kr [] [] ?_
 refine AW.ret ?_
 cases h; refine nz ?_; exact .same _
/-! ### isochrone/isochroneref08.Natural -/
def r08_Natural (K : Nat) (p0 : RatA) (p1 : Int) : Option Int := if ((p0.num.length : Int) == (0 : Int)) then
  some (0 : Int)
 else
  ((
   ((
    if (decide ((1 : Int) < (p0.num.length : Int))) then
     some true
    else
     (idx p0.num (0 : Int)).bind fun x7 =>
     some (decide (p1 < (IntKind.wrap .i64 x7)))) : Option Bool).bind (fun v4_0 =>
   if v4_0 then
    outM (
     some (-1 : Int))
   else
    some (.go ()))) : Option (Out Unit _)).bind (Out.fin fun _ =>
  (idx p0.num (0 : Int)).bind fun x10 =>
  some (IntKind.wrap .i64 x10))
set_option maxHeartbeats 4000000 in
theorem r08_Natural_ok {K : Nat} {p0 : RatA} {p1 : Int} {r : Int} (h : r08_Natural K p0 p1 = some r) : Cn Tryz.prog 113 [aggV p0.enc, .d (.val (.int .i64 p1))] (.d (.val (.int .i64 r))) := by
 have q0 := fun k z => cv_int (k' := k) (z := z) Tryz.underlying111 Tryz.underlying2
 have q1 := fun k z => cv_int (k' := k) (z := z) Tryz.underlying111 Tryz.underlying3
 refine Cn.oz Tryz.func113 Tryz.call113 Tryz.ntmps113 Tryz.results113 fun hfit => ?_
 unfold r08_Natural at h
 refine AW.kr [] [0, 1] ?_
 refine AW.ks [0] [1, 2] ?_
 refine AW.one ?_
 refine AW.ro ?_
 refine AW.ks [0] [1, 2, 8] ?_
 refine AW.tk h (fun hb1 h => ?_) fun hb1 h => ?_
 ·refine AW.ro ?_
  refine AW.ret ?_
  cases h; refine nz ?_; exact .same _
 refine AW.ks [0] [1, 2] ?_
 refine AW.jo h (fun _ => [(2, .ptr 0 3 0 0)]) (fun _ => [vE p0.enc]) (fun oJ3 h hJ3 => ?_) fun ⟨⟩ h => ?_
 ·refine AW.jn h (fun v4_0 => [(2, .ptr 0 3 0 0), (21, vB v4_0)]) (fun v4_0 => [vE p0.enc]) (fun oJ5 h => ?_) fun v4_0 h => ?_
  ·refine AW.rp ?_
   refine sK h (fun hb6 h => ?_) fun hb6 h => ?_
   ·exact ja [0] h
   refine bx h fun x7 h0 h1 h => ?_
   exact ja [0] h
  refine AW.tk h (fun hb9 h => ?_) fun hb9 h => ?_
  ·refine AW.ro ?_
   refine AW.ret ?_
   have h := up h hJ3
   cases h; refine nz ?_; exact .same _
  exact jo [0] h
 refine AW.ro ?_
 refine bx h fun x10 h0 h1 h => ?_
 refine AW.ret ?_
 cases h; refine nz ?_; exact .same _
/-! ### isochrone/isochroneref08.differential -/
def r08_differential_body (K : Nat) (self114 : NodeA → Option Bool) (p0 : NodeA) : Option Bool := ((
  if (p0.op == (20 : Int)) then
   some true
  else
   if (p0.op == (21 : Int)) then
    some true
   else
    if (decide ((22 : Int) ≤ p0.op)) then
     if (decide (p0.op ≤ (27 : Int))) then
      some true
     else
      if (p0.op == (37 : Int)) then
       some true
      else
       some (p0.op == (38 : Int))
    else
     if (p0.op == (37 : Int)) then
      some true
     else
      some (p0.op == (38 : Int))) : Option Bool).bind (fun v1_0 =>
 if v1_0 then
  some true
 else
  ((
   if (p0.op == (29 : Int)) then
    some true
   else
    some (p0.op == (30 : Int))) : Option Bool).bind (fun v10_0 =>
  if v10_0 then
   ((iter (S := Int) (R := Out Unit _) K (fun again i14_0 =>
    if (decide (i14_0 < (p0.kids.length : Int))) then
     (idx p0.kids i14_0).bind fun x19 =>
     (self114 (x19)).bind fun r21 =>
     if (!r21) then
      outM (
       some false)
     else
      again (IntKind.wrap .i64 (i14_0 + (1 : Int)))
    else
     some (.go ())) (0 : Int)) : Option (Out Unit _)).bind (Out.fin fun _ =>
   some true)
  else
   some false))
set_option maxHeartbeats 4000000 in
theorem r08_differential_step (K : Nat) (self114 : NodeA → Option Bool) (hself114 : ∀ (q : NodeA) (r : Bool), self114 q = some r → Cn Tryz.prog 114 [aggV q.enc] (.d (.val (.bool r)))) (p0 : NodeA) (r : Bool) (h : r08_differential_body K self114 p0 = some r) : Cn Tryz.prog 114 [aggV p0.enc] (.d (.val (.bool r))) := by
 refine Cn.oz Tryz.func114 Tryz.call114 Tryz.ntmps114 Tryz.results114 fun hfit => ?_
 unfold r08_differential_body at h
 refine AW.kr [] [0] ?_
 refine AW.ks [0] [1] ?_
 refine AW.one ?_
 refine AW.block ?_
 refine AW.jn h (fun v1_0 => [(1, .ptr 0 6 0 0), (4, vB v1_0)]) (fun v1_0 => [vE p0.enc]) (fun oJ2 h => ?_) fun v1_0 h => ?_
 ·refine AW.rp ?_
  refine sK h (fun hb3 h => ?_) fun hb3 h => ?_
  ·exact ja [0] h
  refine sK h (fun hb4 h => ?_) fun hb4 h => ?_
  ·exact ja [0] h
  refine sK h (fun hb5 h => ?_) fun hb5 h => ?_
  ·refine sK h (fun hb6 h => ?_) fun hb6 h => ?_
   ·exact ja [0] h
   refine sK h (fun hb7 h => ?_) fun hb7 h => ?_
   ·exact ja [0] h
   exact ja [0] h
  refine sK h (fun hb8 h => ?_) fun hb8 h => ?_
  ·exact ja [0] h
  exact ja [0] h
 refine AW.tt h (fun hb9 h => ?_) fun hb9 h => ?_
 ·refine AW.ro ?_
  refine AW.ret ?_
  cases h; refine nz ?_; exact .same _
 refine AW.jn h (fun v10_0 => [(1, .ptr 0 6 0 0), (33, vB v10_0)]) (fun v10_0 => [vE p0.enc]) (fun oJ11 h => ?_) fun v10_0 h => ?_
 ·refine AW.rp ?_
  refine sK h (fun hb12 h => ?_) fun hb12 h => ?_
  ·exact ja [0] h
  exact ja [0] h
 refine AW.tk h (fun hb13 h => ?_) fun hb13 h => ?_
 ·refine AW.one ?_
  refine AW.ro ?_
  refine AW.ks [0] [1, 3] ?_
  refine AW.lp h (fun _ => []) (fun _ => []) (fun i14_0 => [(1, .ptr 0 6 0 0), (3, vI i14_0)]) (fun i14_0 => [vE p0.enc]) [0] (fun oJ17 hJ17 again i14_0 h => ?_) fun ⟨⟩ h => ?_
  ·refine AW.one ?_
   refine AW.ro ?_
   refine AW.ks [0] [1, 3, 46] ?_
   refine AW.tt h (fun hb18 h => ?_) fun hb18 h => ?_
   ·refine AW.sk ?_
    refine AW.ks [0] [1, 3] ?_
    refine AW.one ?_
    refine AW.block ?_
    refine AW.ro ?_
    refine bx h fun x19 h0 h1 h => ?_
    refine cm h (hself114 _ _) fun r21 hx22 h => ?_
    refine AW.ks [0] [1, 3, 55] ?_
    refine AW.tk h (fun hb23 h => ?_) fun hb23 h => ?_
    ·refine AW.ro ?_
     refine AW.ret ?_
     have h := up h hJ17
     cases h; refine nz ?_; exact .same _
    refine AW.ks [0] [1, 3] ?_
    refine AW.rp ?_
    exact na [0] h
   refine AW.ex ?_
   exact jo [] h
  refine AW.kr [] [] ?_
  refine AW.ret ?_
  cases h; refine nz ?_; exact .same _
 refine AW.kr [] [] ?_
 refine AW.ret ?_
 cases h; refine nz ?_; exact .same _
def r08_differential (K : Nat) (p0 : NodeA) : Option Bool := iter K (fun self q => r08_differential_body K self q) p0
theorem key_r08_differential {K : Nat} (k : Nat) : (∀ (q : NodeA) (r : Bool), iter k (fun self q => r08_differential_body K self q) q = some r → Cn Tryz.prog 114 [aggV q.enc] (.d (.val (.bool r)))) := by
 induction k with
 | zero => exact fun q r h => by cases h
 | succ k ih => exact fun q r h => r08_differential_step K _ ih q r h
theorem r08_differential_ok {K : Nat} {p0 : NodeA} {r : Bool} (h : r08_differential K p0 = some r) : Cn Tryz.prog 114 [aggV p0.enc] (.d (.val (.bool r))) := (key_r08_differential K) p0 r h
/-! ### isochrone/isochroneref08.kids -/
def r08_kids (K : Nat) (p0 : Int) : Option ByteArray := ((
  if (p0 == (4 : Int)) then
   some (p0 == (4 : Int))
  else
   if (p0 == (12 : Int)) then
    some (p0 == (12 : Int))
   else
    if (p0 == (50 : Int)) then
     some (p0 == (50 : Int))
    else
     if (p0 == (51 : Int)) then
      some (p0 == (51 : Int))
     else
      some (p0 == (55 : Int))) : Option Bool).bind (fun v1_0 =>
 if v1_0 then
  some (⟨#[49]⟩ : ByteArray)
 else
  ((
   if (p0 == (5 : Int)) then
    some (p0 == (5 : Int))
   else
    if (p0 == (6 : Int)) then
     some (p0 == (6 : Int))
    else
     if (p0 == (7 : Int)) then
      some (p0 == (7 : Int))
     else
      if (p0 == (8 : Int)) then
       some (p0 == (8 : Int))
      else
       if (p0 == (9 : Int)) then
        some (p0 == (9 : Int))
       else
        if (p0 == (22 : Int)) then
         some (p0 == (22 : Int))
        else
         if (p0 == (23 : Int)) then
          some (p0 == (23 : Int))
         else
          if (p0 == (24 : Int)) then
           some (p0 == (24 : Int))
          else
           if (p0 == (25 : Int)) then
            some (p0 == (25 : Int))
           else
            if (p0 == (26 : Int)) then
             some (p0 == (26 : Int))
            else
             some (p0 == (27 : Int))) : Option Bool).bind (fun v8_0 =>
  if v8_0 then
   some (⟨#[49, 49]⟩ : ByteArray)
  else
   ((
    if (p0 == (28 : Int)) then
     some (p0 == (28 : Int))
    else
     if (p0 == (33 : Int)) then
      some (p0 == (33 : Int))
     else
      if (p0 == (34 : Int)) then
       some (p0 == (34 : Int))
      else
       if (p0 == (39 : Int)) then
        some (p0 == (39 : Int))
       else
        some (p0 == (53 : Int))) : Option Bool).bind (fun v21_0 =>
   if v21_0 then
    some (⟨#[50]⟩ : ByteArray)
   else
    ((
     if (p0 == (29 : Int)) then
      some (p0 == (29 : Int))
     else
      if (p0 == (30 : Int)) then
       some (p0 == (30 : Int))
      else
       if (p0 == (31 : Int)) then
        some (p0 == (31 : Int))
       else
        some (p0 == (32 : Int))) : Option Bool).bind (fun v28_0 =>
    if v28_0 then
     some (⟨#[50, 50]⟩ : ByteArray)
    else
     ((
      if (p0 == (35 : Int)) then
       some (p0 == (35 : Int))
      else
       some (p0 == (36 : Int))) : Option Bool).bind (fun v34_0 =>
     if v34_0 then
      some (⟨#[51, 50]⟩ : ByteArray)
     else
      ((
       if (p0 == (57 : Int)) then
        some (p0 == (57 : Int))
       else
        some (p0 == (58 : Int))) : Option Bool).bind (fun v38_0 =>
      if v38_0 then
       some (⟨#[51, 51]⟩ : ByteArray)
      else
       ((
        if (p0 == (59 : Int)) then
         some (p0 == (59 : Int))
        else
         some (p0 == (60 : Int))) : Option Bool).bind (fun v42_0 =>
       if v42_0 then
        some (⟨#[51]⟩ : ByteArray)
       else
        some (⟨#[]⟩ : ByteArray))))))))
set_option maxHeartbeats 4000000 in
theorem r08_kids_ok {K : Nat} {p0 : Int} {r : ByteArray} (h : r08_kids K p0 = some r) : Cn Tryz.prog 112 [.d (.val (.int .i64 p0))] (.d (.val (.string r))) := by
 refine Cn.oz Tryz.func112 Tryz.call112 Tryz.ntmps112 Tryz.results112 fun hfit => ?_
 unfold r08_kids at h
 refine AW.kr [] [0] ?_
 refine AW.ks [] [0] ?_
 refine AW.one ?_
 refine AW.ro ?_
 refine AW.ks [] [3] ?_
 refine AW.block ?_
 refine AW.jn h (fun v1_0 => [(3, vI p0), (4, vB v1_0)]) (fun v1_0 => []) (fun oJ2 h => ?_) fun v1_0 h => ?_
 ·refine AW.ro ?_
  refine AW.ks [] [3, 4] ?_
  refine AW.tt h (fun hb3 h => ?_) fun hb3 h => ?_
  ·refine AW.sk ?_
   exact ja [] h
  refine AW.ro ?_
  refine AW.ks [] [3, 4] ?_
  refine AW.tt h (fun hb4 h => ?_) fun hb4 h => ?_
  ·refine AW.sk ?_
   exact ja [] h
  refine AW.ro ?_
  refine AW.ks [] [3, 4] ?_
  refine AW.tt h (fun hb5 h => ?_) fun hb5 h => ?_
  ·refine AW.sk ?_
   exact ja [] h
  refine AW.ro ?_
  refine AW.ks [] [3, 4] ?_
  refine AW.tt h (fun hb6 h => ?_) fun hb6 h => ?_
  ·refine AW.sk ?_
   exact ja [] h
  refine AW.rp ?_
  exact ja [] h
 refine AW.tt h (fun hb7 h => ?_) fun hb7 h => ?_
 ·refine AW.ro ?_
  refine AW.ret ?_
  cases h; refine nz ?_; exact .same _
 refine AW.jn h (fun v8_0 => [(3, vI p0), (10, vB v8_0)]) (fun v8_0 => []) (fun oJ9 h => ?_) fun v8_0 h => ?_
 ·refine AW.ro ?_
  refine AW.ks [] [3, 10] ?_
  refine AW.tt h (fun hb10 h => ?_) fun hb10 h => ?_
  ·refine AW.sk ?_
   exact ja [] h
  refine AW.ro ?_
  refine AW.ks [] [3, 10] ?_
  refine AW.tt h (fun hb11 h => ?_) fun hb11 h => ?_
  ·refine AW.sk ?_
   exact ja [] h
  refine AW.ro ?_
  refine AW.ks [] [3, 10] ?_
  refine AW.tt h (fun hb12 h => ?_) fun hb12 h => ?_
  ·refine AW.sk ?_
   exact ja [] h
  refine AW.ro ?_
  refine AW.ks [] [3, 10] ?_
  refine AW.tt h (fun hb13 h => ?_) fun hb13 h => ?_
  ·refine AW.sk ?_
   exact ja [] h
  refine AW.ro ?_
  refine AW.ks [] [3, 10] ?_
  refine AW.tt h (fun hb14 h => ?_) fun hb14 h => ?_
  ·refine AW.sk ?_
   exact ja [] h
  refine AW.ro ?_
  refine AW.ks [] [3, 10] ?_
  refine AW.tt h (fun hb15 h => ?_) fun hb15 h => ?_
  ·refine AW.sk ?_
   exact ja [] h
  refine AW.ro ?_
  refine AW.ks [] [3, 10] ?_
  refine AW.tt h (fun hb16 h => ?_) fun hb16 h => ?_
  ·refine AW.sk ?_
   exact ja [] h
  refine AW.ro ?_
  refine AW.ks [] [3, 10] ?_
  refine AW.tt h (fun hb17 h => ?_) fun hb17 h => ?_
  ·refine AW.sk ?_
   exact ja [] h
  refine AW.ro ?_
  refine AW.ks [] [3, 10] ?_
  refine AW.tt h (fun hb18 h => ?_) fun hb18 h => ?_
  ·refine AW.sk ?_
   exact ja [] h
  refine AW.ro ?_
  refine AW.ks [] [3, 10] ?_
  refine AW.tt h (fun hb19 h => ?_) fun hb19 h => ?_
  ·refine AW.sk ?_
   exact ja [] h
  refine AW.rp ?_
  exact ja [] h
 refine AW.tt h (fun hb20 h => ?_) fun hb20 h => ?_
 ·refine AW.ro ?_
  refine AW.ret ?_
  cases h; refine nz ?_; exact .same _
 refine AW.jn h (fun v21_0 => [(3, vI p0), (22, vB v21_0)]) (fun v21_0 => []) (fun oJ22 h => ?_) fun v21_0 h => ?_
 ·refine AW.ro ?_
  refine AW.ks [] [3, 22] ?_
  refine AW.tt h (fun hb23 h => ?_) fun hb23 h => ?_
  ·refine AW.sk ?_
   exact ja [] h
  refine AW.ro ?_
  refine AW.ks [] [3, 22] ?_
  refine AW.tt h (fun hb24 h => ?_) fun hb24 h => ?_
  ·refine AW.sk ?_
   exact ja [] h
  refine AW.ro ?_
  refine AW.ks [] [3, 22] ?_
  refine AW.tt h (fun hb25 h => ?_) fun hb25 h => ?_
  ·refine AW.sk ?_
   exact ja [] h
  refine AW.ro ?_
  refine AW.ks [] [3, 22] ?_
  refine AW.tt h (fun hb26 h => ?_) fun hb26 h => ?_
  ·refine AW.sk ?_
   exact ja [] h
  refine AW.rp ?_
  exact ja [] h
 refine AW.tt h (fun hb27 h => ?_) fun hb27 h => ?_
 ·refine AW.ro ?_
  refine AW.ret ?_
  cases h; refine nz ?_; exact .same _
 refine AW.jn h (fun v28_0 => [(3, vI p0), (28, vB v28_0)]) (fun v28_0 => []) (fun oJ29 h => ?_) fun v28_0 h => ?_
 ·refine AW.ro ?_
  refine AW.ks [] [3, 28] ?_
  refine AW.tt h (fun hb30 h => ?_) fun hb30 h => ?_
  ·refine AW.sk ?_
   exact ja [] h
  refine AW.ro ?_
  refine AW.ks [] [3, 28] ?_
  refine AW.tt h (fun hb31 h => ?_) fun hb31 h => ?_
  ·refine AW.sk ?_
   exact ja [] h
  refine AW.ro ?_
  refine AW.ks [] [3, 28] ?_
  refine AW.tt h (fun hb32 h => ?_) fun hb32 h => ?_
  ·refine AW.sk ?_
   exact ja [] h
  refine AW.rp ?_
  exact ja [] h
 refine AW.tt h (fun hb33 h => ?_) fun hb33 h => ?_
 ·refine AW.ro ?_
  refine AW.ret ?_
  cases h; refine nz ?_; exact .same _
 refine AW.jn h (fun v34_0 => [(3, vI p0), (33, vB v34_0)]) (fun v34_0 => []) (fun oJ35 h => ?_) fun v34_0 h => ?_
 ·refine AW.ro ?_
  refine AW.ks [] [3, 33] ?_
  refine AW.tt h (fun hb36 h => ?_) fun hb36 h => ?_
  ·refine AW.sk ?_
   exact ja [] h
  refine AW.rp ?_
  exact ja [] h
 refine AW.tt h (fun hb37 h => ?_) fun hb37 h => ?_
 ·refine AW.ro ?_
  refine AW.ret ?_
  cases h; refine nz ?_; exact .same _
 refine AW.jn h (fun v38_0 => [(3, vI p0), (36, vB v38_0)]) (fun v38_0 => []) (fun oJ39 h => ?_) fun v38_0 h => ?_
 ·refine AW.ro ?_
  refine AW.ks [] [3, 36] ?_
  refine AW.tt h (fun hb40 h => ?_) fun hb40 h => ?_
  ·refine AW.sk ?_
   exact ja [] h
  refine AW.rp ?_
  exact ja [] h
 refine AW.tt h (fun hb41 h => ?_) fun hb41 h => ?_
 ·refine AW.ro ?_
  refine AW.ret ?_
  cases h; refine nz ?_; exact .same _
 refine AW.jn h (fun v42_0 => [(39, vB v42_0)]) (fun v42_0 => []) (fun oJ43 h => ?_) fun v42_0 h => ?_
 ·refine AW.ro ?_
  refine AW.ks [] [3, 39] ?_
  refine AW.tt h (fun hb44 h => ?_) fun hb44 h => ?_
  ·refine AW.sk ?_
   exact ja [] h
  refine AW.rp ?_
  exact ja [] h
 refine AW.tk h (fun hb45 h => ?_) fun hb45 h => ?_
 ·refine AW.ro ?_
  refine AW.ret ?_
  cases h; refine nz ?_; exact .same _
 refine AW.kr [] [] ?_
 refine AW.ret ?_
 cases h; refine nz ?_; exact .same _
/-! ### isochrone/isochroneref08.named -/
def r08_named (K : Nat) (p0 : Int) : Option Bool := ((
  if (p0 == (2 : Int)) then
   some (p0 == (2 : Int))
  else
   if (p0 == (3 : Int)) then
    some (p0 == (3 : Int))
   else
    if (p0 == (10 : Int)) then
     some (p0 == (10 : Int))
    else
     if (p0 == (11 : Int)) then
      some (p0 == (11 : Int))
     else
      if (p0 == (33 : Int)) then
       some (p0 == (33 : Int))
      else
       if (p0 == (34 : Int)) then
        some (p0 == (34 : Int))
       else
        if (p0 == (37 : Int)) then
         some (p0 == (37 : Int))
        else
         if (p0 == (38 : Int)) then
          some (p0 == (38 : Int))
         else
          if (p0 == (50 : Int)) then
           some (p0 == (50 : Int))
          else
           if (p0 == (51 : Int)) then
            some (p0 == (51 : Int))
           else
            if (p0 == (52 : Int)) then
             some (p0 == (52 : Int))
            else
             if (p0 == (55 : Int)) then
              some (p0 == (55 : Int))
             else
              if (p0 == (56 : Int)) then
               some (p0 == (56 : Int))
              else
               if (p0 == (61 : Int)) then
                some (p0 == (61 : Int))
               else
                some (p0 == (62 : Int))) : Option Bool).bind (fun v1_0 =>
 if v1_0 then
  some true
 else
  some false)
set_option maxHeartbeats 4000000 in
theorem r08_named_ok {K : Nat} {p0 : Int} {r : Bool} (h : r08_named K p0 = some r) : Cn Tryz.prog 109 [.d (.val (.int .i64 p0))] (.d (.val (.bool r))) := by
 refine Cn.oz Tryz.func109 Tryz.call109 Tryz.ntmps109 Tryz.results109 fun hfit => ?_
 unfold r08_named at h
 refine AW.kr [] [0] ?_
 refine AW.ks [] [0] ?_
 refine AW.one ?_
 refine AW.ro ?_
 refine AW.ks [] [3] ?_
 refine AW.block ?_
 refine AW.jn h (fun v1_0 => [(4, vB v1_0)]) (fun v1_0 => []) (fun oJ2 h => ?_) fun v1_0 h => ?_
 ·refine AW.ro ?_
  refine AW.ks [] [3, 4] ?_
  refine AW.tt h (fun hb3 h => ?_) fun hb3 h => ?_
  ·refine AW.sk ?_
   exact ja [] h
  refine AW.ro ?_
  refine AW.ks [] [3, 4] ?_
  refine AW.tt h (fun hb4 h => ?_) fun hb4 h => ?_
  ·refine AW.sk ?_
   exact ja [] h
  refine AW.ro ?_
  refine AW.ks [] [3, 4] ?_
  refine AW.tt h (fun hb5 h => ?_) fun hb5 h => ?_
  ·refine AW.sk ?_
   exact ja [] h
  refine AW.ro ?_
  refine AW.ks [] [3, 4] ?_
  refine AW.tt h (fun hb6 h => ?_) fun hb6 h => ?_
  ·refine AW.sk ?_
   exact ja [] h
  refine AW.ro ?_
  refine AW.ks [] [3, 4] ?_
  refine AW.tt h (fun hb7 h => ?_) fun hb7 h => ?_
  ·refine AW.sk ?_
   exact ja [] h
  refine AW.ro ?_
  refine AW.ks [] [3, 4] ?_
  refine AW.tt h (fun hb8 h => ?_) fun hb8 h => ?_
  ·refine AW.sk ?_
   exact ja [] h
  refine AW.ro ?_
  refine AW.ks [] [3, 4] ?_
  refine AW.tt h (fun hb9 h => ?_) fun hb9 h => ?_
  ·refine AW.sk ?_
   exact ja [] h
  refine AW.ro ?_
  refine AW.ks [] [3, 4] ?_
  refine AW.tt h (fun hb10 h => ?_) fun hb10 h => ?_
  ·refine AW.sk ?_
   exact ja [] h
  refine AW.ro ?_
  refine AW.ks [] [3, 4] ?_
  refine AW.tt h (fun hb11 h => ?_) fun hb11 h => ?_
  ·refine AW.sk ?_
   exact ja [] h
  refine AW.ro ?_
  refine AW.ks [] [3, 4] ?_
  refine AW.tt h (fun hb12 h => ?_) fun hb12 h => ?_
  ·refine AW.sk ?_
   exact ja [] h
  refine AW.ro ?_
  refine AW.ks [] [3, 4] ?_
  refine AW.tt h (fun hb13 h => ?_) fun hb13 h => ?_
  ·refine AW.sk ?_
   exact ja [] h
  refine AW.ro ?_
  refine AW.ks [] [3, 4] ?_
  refine AW.tt h (fun hb14 h => ?_) fun hb14 h => ?_
  ·refine AW.sk ?_
   exact ja [] h
  refine AW.ro ?_
  refine AW.ks [] [3, 4] ?_
  refine AW.tt h (fun hb15 h => ?_) fun hb15 h => ?_
  ·refine AW.sk ?_
   exact ja [] h
  refine AW.ro ?_
  refine AW.ks [] [3, 4] ?_
  refine AW.tt h (fun hb16 h => ?_) fun hb16 h => ?_
  ·refine AW.sk ?_
   exact ja [] h
  refine AW.rp ?_
  exact ja [] h
 refine AW.tk h (fun hb17 h => ?_) fun hb17 h => ?_
 ·refine AW.ro ?_
  refine AW.ret ?_
  cases h; refine nz ?_; exact .same _
 refine AW.kr [] [] ?_
 refine AW.ret ?_
 cases h; refine nz ?_; exact .same _
/-! ### isochrone/isochroneref08.natural -/
def r08_natural (K : Nat) (p0 : RatA) : Option Bool := ((
  ((
   if p0.neg then
    some true
   else
    if ((p0.den.length : Int) != (1 : Int)) then
     some true
    else
     (idx p0.den (0 : Int)).bind fun x7 =>
     if (x7 != (1 : Int)) then
      some true
     else
      some (decide ((20 : Int) < (p0.num.length : Int)))) : Option Bool).bind (fun v3_0 =>
  if v3_0 then
   outM (
    some false)
  else
   some (.go ()))) : Option (Out Unit _)).bind (Out.fin fun _ =>
 if ((p0.num.length : Int) == (0 : Int)) then
  some true
 else
  (idx p0.num (IntKind.wrap .i64 ((p0.num.length : Int) - (1 : Int)))).bind fun x12 =>
  some (x12 != (0 : Int)))
set_option maxHeartbeats 4000000 in
theorem r08_natural_ok {K : Nat} {p0 : RatA} {r : Bool} (h : r08_natural K p0 = some r) : Cn Tryz.prog 110 [aggV p0.enc] (.d (.val (.bool r))) := by
 refine Cn.oz Tryz.func110 Tryz.call110 Tryz.ntmps110 Tryz.results110 fun hfit => ?_
 unfold r08_natural at h
 refine AW.kr [] [0] ?_
 refine AW.ks [0] [1] ?_
 refine AW.jo h (fun _ => [(1, .ptr 0 3 0 0)]) (fun _ => [vE p0.enc]) (fun oJ2 h hJ2 => ?_) fun ⟨⟩ h => ?_
 ·refine AW.jn h (fun v3_0 => [(1, .ptr 0 3 0 0), (23, vB v3_0)]) (fun v3_0 => [vE p0.enc]) (fun oJ4 h => ?_) fun v3_0 h => ?_
  ·refine AW.rp ?_
   refine sK h (fun hb5 h => ?_) fun hb5 h => ?_
   ·exact ja [0] h
   refine sK h (fun hb6 h => ?_) fun hb6 h => ?_
   ·exact ja [0] h
   refine bx h fun x7 h0 h1 h => ?_
   refine sK h (fun hb9 h => ?_) fun hb9 h => ?_
   ·exact ja [0] h
   exact ja [0] h
  refine AW.tk h (fun hb10 h => ?_) fun hb10 h => ?_
  ·refine AW.ro ?_
   refine AW.ret ?_
   have h := up h hJ2
   cases h; refine nz ?_; exact .same _
  exact jo [0] h
 refine AW.ro ?_
 refine sK h (fun hb11 h => ?_) fun hb11 h => ?_
 ·refine AW.ret ?_
  cases h; refine nz ?_; exact .same _
 refine bx h fun x12 h0 h1 h => ?_
 refine AW.ret ?_
 cases h; refine nz ?_; exact .same _
/-! ### isochrone/isochroneref08.primed -/
def r08_primed_body (K : Nat) (self140 : NodeA → Option Bool) (p0 : NodeA) : Option Bool := ((
  ((
   if (p0.op == (3 : Int)) then
    some true
   else
    if (p0.op == (12 : Int)) then
     some true
    else
     some (p0.op == (39 : Int))) : Option Bool).bind (fun v3_0 =>
  if v3_0 then
   outM (
    some true)
  else
   some (.go ()))) : Option (Out Unit _)).bind (Out.fin fun _ =>
 ((iter (S := Int) (R := Out Unit _) K (fun again i8_0 =>
  if (decide (i8_0 < (p0.kids.length : Int))) then
   (idx p0.kids i8_0).bind fun x13 =>
   (self140 (x13)).bind fun r15 =>
   if r15 then
    outM (
     some true)
   else
    again (IntKind.wrap .i64 (i8_0 + (1 : Int)))
  else
   some (.go ())) (0 : Int)) : Option (Out Unit _)).bind (Out.fin fun _ =>
 some false))
set_option maxHeartbeats 4000000 in
theorem r08_primed_step (K : Nat) (self140 : NodeA → Option Bool) (hself140 : ∀ (q : NodeA) (r : Bool), self140 q = some r → Cn Tryz.prog 140 [aggV q.enc] (.d (.val (.bool r)))) (p0 : NodeA) (r : Bool) (h : r08_primed_body K self140 p0 = some r) : Cn Tryz.prog 140 [aggV p0.enc] (.d (.val (.bool r))) := by
 refine Cn.oz Tryz.func140 Tryz.call140 Tryz.ntmps140 Tryz.results140 fun hfit => ?_
 unfold r08_primed_body at h
 refine AW.kr [] [0] ?_
 refine AW.ks [0] [1] ?_
 refine AW.jo h (fun _ => [(1, .ptr 0 6 0 0)]) (fun _ => [vE p0.enc]) (fun oJ2 h hJ2 => ?_) fun ⟨⟩ h => ?_
 ·refine AW.jn h (fun v3_0 => [(1, .ptr 0 6 0 0), (16, vB v3_0)]) (fun v3_0 => [vE p0.enc]) (fun oJ4 h => ?_) fun v3_0 h => ?_
  ·refine AW.rp ?_
   refine sK h (fun hb5 h => ?_) fun hb5 h => ?_
   ·exact ja [0] h
   refine sK h (fun hb6 h => ?_) fun hb6 h => ?_
   ·exact ja [0] h
   exact ja [0] h
  refine AW.tk h (fun hb7 h => ?_) fun hb7 h => ?_
  ·refine AW.ro ?_
   refine AW.ret ?_
   have h := up h hJ2
   cases h; refine nz ?_; exact .same _
  exact jo [0] h
 refine AW.one ?_
 refine AW.ro ?_
 refine AW.ks [0] [1, 3] ?_
 refine AW.lp h (fun _ => []) (fun _ => []) (fun i8_0 => [(1, .ptr 0 6 0 0), (3, vI i8_0)]) (fun i8_0 => [vE p0.enc]) [0] (fun oJ11 hJ11 again i8_0 h => ?_) fun ⟨⟩ h => ?_
 ·refine AW.one ?_
  refine AW.ro ?_
  refine AW.ks [0] [1, 3, 21] ?_
  refine AW.tt h (fun hb12 h => ?_) fun hb12 h => ?_
  ·refine AW.sk ?_
   refine AW.ks [0] [1, 3] ?_
   refine AW.one ?_
   refine AW.block ?_
   refine AW.ro ?_
   refine bx h fun x13 h0 h1 h => ?_
   refine cm h (hself140 _ _) fun r15 hx16 h => ?_
   refine AW.ks [0] [1, 3, 29] ?_
   refine AW.tk h (fun hb17 h => ?_) fun hb17 h => ?_
   ·refine AW.ro ?_
    refine AW.ret ?_
    have h := up h hJ11
    cases h; refine nz ?_; exact .same _
   refine AW.ks [0] [1, 3] ?_
   refine AW.rp ?_
   exact na [0] h
  refine AW.ex ?_
  exact jo [] h
 refine AW.kr [] [] ?_
 refine AW.ret ?_
 cases h; refine nz ?_; exact .same _
def r08_primed (K : Nat) (p0 : NodeA) : Option Bool := iter K (fun self q => r08_primed_body K self q) p0
theorem key_r08_primed {K : Nat} (k : Nat) : (∀ (q : NodeA) (r : Bool), iter k (fun self q => r08_primed_body K self q) q = some r → Cn Tryz.prog 140 [aggV q.enc] (.d (.val (.bool r)))) := by
 induction k with
 | zero => exact fun q r h => by cases h
 | succ k ih => exact fun q r h => r08_primed_step K _ ih q r h
theorem r08_primed_ok {K : Nat} {p0 : NodeA} {r : Bool} (h : r08_primed K p0 = some r) : Cn Tryz.prog 140 [aggV p0.enc] (.d (.val (.bool r))) := (key_r08_primed K) p0 r h
/-! ### isochrone/isochroneref08.well -/
def r08_well_body (K : Nat) (self71 : (NodeA × Int × Bool × Bool) → Option Bool) (self111 : (NodeA × Bool × Bool) → Option Bool) (p0 : NodeA) (p1 : Int) (p2 : Bool) (p3 : Bool) : Option Bool := ((
  ((
   (r08_Sort K p0.op).bind fun r5 =>
   if (r5 != p1) then
    some true
   else
    (r08_named K p0.op).bind fun r8 =>
    (r08_Name K p0.name).bind fun r10 =>
    if (!(r8 == r10)) then
     some true
    else
     (r08_named K p0.op).bind fun r13 =>
     if (!r13) then
      some (!(p0.name.toList == (⟨#[]⟩ : ByteArray).toList))
     else
      some false) : Option Bool).bind (fun v3_0 =>
  if v3_0 then
   outM (
    some false)
  else
   some (.go ()))) : Option (Out Unit _)).bind (Out.fin fun _ =>
 ((
  if (p0.op == (1 : Int)) then
   (r08_natural K p0.num).bind fun r20 =>
   if (!r20) then
    outM (
     some false)
   else
    some (.go ())
  else
   ((
    if p0.num.neg then
     some true
    else
     if (decide ((0 : Int) < (p0.num.num.length : Int))) then
      some true
     else
      some (decide ((0 : Int) < (p0.num.den.length : Int)))) : Option Bool).bind (fun v23_0 =>
   if v23_0 then
    outM (
     some false)
   else
    some (.go ()))) : Option (Out Unit _)).bind (Out.fin fun _ =>
 ((
  ((
   if p2 then
    if (p0.op == (12 : Int)) then
     some true
    else
     some (p0.op == (3 : Int))
   else
    if p3 then
     some (p0.op == (3 : Int))
    else
     some false) : Option Bool).bind (fun v30_0 =>
  if v30_0 then
   outM (
    some false)
  else
   some (.go ()))) : Option (Out Unit _)).bind (Out.fin fun _ =>
 if (p0.op == (54 : Int)) then
  (self111 (p0, p2, p3)).bind fun r37 =>
  some r37
 else
  (r08_kids K p0.op).bind fun r39 =>
  ((
   ((
    if (p0.op == (10 : Int)) then
     some true
    else
     some (p0.op == (37 : Int))) : Option Bool).bind (fun v43_0 =>
   if v43_0 then
    if ((p0.kids.length : Int) == (1 : Int)) then
     some (⟨#[49]⟩ : ByteArray)
    else
     some r39
   else
    some r39)) : Option ByteArray).bind (fun v41_0 =>
  if ((v41_0.size : Int) != (p0.kids.length : Int)) then
   some false
  else
   ((iter (S := Int) (R := Out Unit _) K (fun again i49_0 =>
    if (decide (i49_0 < (v41_0.size : Int))) then
     ((
      ((
       (idx p0.kids i49_0).bind fun x58 =>
       (strAt v41_0 i49_0).bind fun c60 =>
       if p2 then
        if p3 then
         (self71 (x58, IntKind.wrap .i64 (IntKind.wrap .u8 ((c60.toNat : Int) - (48 : Int))), true, true)).bind fun r64 =>
         some (!r64)
        else
         (self71 (x58, IntKind.wrap .i64 (IntKind.wrap .u8 ((c60.toNat : Int) - (48 : Int))), true, (p0.op == (39 : Int)))).bind fun r66 =>
         some (!r66)
       else
        if p3 then
         (self71 (x58, IntKind.wrap .i64 (IntKind.wrap .u8 ((c60.toNat : Int) - (48 : Int))), (p0.op == (12 : Int)), true)).bind fun r69 =>
         some (!r69)
        else
         (self71 (x58, IntKind.wrap .i64 (IntKind.wrap .u8 ((c60.toNat : Int) - (48 : Int))), (p0.op == (12 : Int)), (p0.op == (39 : Int)))).bind fun r71 =>
         some (!r71)) : Option Bool).bind (fun v56_0 =>
      if v56_0 then
       outM (
        outM (
         some false))
      else
       some (.go ()))) : Option (Out Unit _)).bind (Out.fin fun _ =>
     again (IntKind.wrap .i64 (i49_0 + (1 : Int))))
    else
     some (.go ())) (0 : Int)) : Option (Out Unit _)).bind (Out.fin fun _ =>
   if (p0.op == (8 : Int)) then
    (idx p0.kids (1 : Int)).bind fun x75 =>
    if (x75.op == (1 : Int)) then
     some (decide ((0 : Int) < (x75.num.num.length : Int)))
    else
     some false
   else
    if (p0.op == (9 : Int)) then
     (idx p0.kids (1 : Int)).bind fun x79 =>
     if (x79.op == (1 : Int)) then
      (r08_Natural K x79.num (20 : Int)).bind fun r82 =>
      some (decide ((0 : Int) ≤ r82))
     else
      some false
    else
     if (p0.op == (39 : Int)) then
      (idx p0.kids (0 : Int)).bind fun x85 =>
      (r08_differential K x85).bind fun r87 =>
      some r87
     else
      some true)))))
set_option maxHeartbeats 4000000 in
theorem r08_well_step (K : Nat) (self71 : (NodeA × Int × Bool × Bool) → Option Bool) (self111 : (NodeA × Bool × Bool) → Option Bool) (hself71 : ∀ (q : NodeA × Int × Bool × Bool) (r : Bool), self71 q = some r → Cn Tryz.prog 71 [aggV q.1.enc, .d (.val (.int .i64 q.2.1)), .d (.val (.bool q.2.2.1)), .d (.val (.bool q.2.2.2))] (.d (.val (.bool r)))) (hself111 : ∀ (q : NodeA × Bool × Bool) (r : Bool), self111 q = some r → Cn Tryz.prog 111 [aggV q.1.enc, .d (.val (.bool q.2.1)), .d (.val (.bool q.2.2))] (.d (.val (.bool r)))) (p0 : NodeA) (p1 : Int) (p2 : Bool) (p3 : Bool) (r : Bool) (h : r08_well_body K self71 self111 p0 p1 p2 p3 = some r) : Cn Tryz.prog 71 [aggV p0.enc, .d (.val (.int .i64 p1)), .d (.val (.bool p2)), .d (.val (.bool p3))] (.d (.val (.bool r))) := by
 have q0 := fun k z => cv_int (k' := k) (z := z) Tryz.underlying5 Tryz.underlying3
 refine Cn.oz Tryz.func71 Tryz.call71 Tryz.ntmps71 Tryz.results71 fun hfit => ?_
 unfold r08_well_body at h
 refine AW.kr [] [0, 1, 2, 3] ?_
 refine AW.ks [0] [1, 2, 3, 4] ?_
 refine AW.jo h (fun _ => [(2, vB p2), (3, vB p3), (4, .ptr 0 6 0 0)]) (fun _ => [vE p0.enc]) (fun oJ2 h hJ2 => ?_) fun ⟨⟩ h => ?_
 ·refine AW.jn h (fun v3_0 => [(2, vB p2), (3, vB p3), (4, .ptr 0 6 0 0), (35, vB v3_0)]) (fun v3_0 => [vE p0.enc]) (fun oJ4 h => ?_) fun v3_0 h => ?_
  ·refine AW.rp ?_
   refine pm h r08_Sort_ok fun r5 hx6 h => ?_
   refine sK h (fun hb7 h => ?_) fun hb7 h => ?_
   ·exact ja [0] h
   refine pm h r08_named_ok fun r8 hx9 h => ?_
   refine pm h r08_Name_ok fun r10 hx11 h => ?_
   refine sK h (fun hb12 h => ?_) fun hb12 h => ?_
   ·exact ja [0] h
   refine pm h r08_named_ok fun r13 hx14 h => ?_
   refine sK h (fun hb15 h => ?_) fun hb15 h => ?_
   ·exact ja [0] h
   exact ja [0] h
  refine AW.tk h (fun hb16 h => ?_) fun hb16 h => ?_
  ·refine AW.ro ?_
   refine AW.ret ?_
   have h := up h hJ2
   cases h; refine nz ?_; exact .same _
  exact jo [0] h
 refine AW.jo h (fun _ => [(2, vB p2), (3, vB p3), (4, .ptr 0 6 0 0)]) (fun _ => [vE p0.enc]) (fun oJ18 h hJ18 => ?_) fun ⟨⟩ h => ?_
 ·refine AW.ro ?_
  refine AW.ks [0] [2, 3, 4, 38] ?_
  refine AW.tt h (fun hb19 h => ?_) fun hb19 h => ?_
  ·refine AW.ro ?_
   refine cm h r08_natural_ok fun r20 hx21 h => ?_
   refine AW.ks [0] [2, 3, 4, 42] ?_
   refine AW.tk h (fun hb22 h => ?_) fun hb22 h => ?_
   ·refine AW.ro ?_
    refine AW.ret ?_
    have h := up h hJ18
    cases h; refine nz ?_; exact .same _
   exact jo [0] h
  refine AW.jn h (fun v23_0 => [(2, vB p2), (3, vB p3), (4, .ptr 0 6 0 0), (59, vB v23_0)]) (fun v23_0 => [vE p0.enc]) (fun oJ24 h => ?_) fun v23_0 h => ?_
  ·refine AW.rp ?_
   refine sK h (fun hb25 h => ?_) fun hb25 h => ?_
   ·exact ja [0] h
   refine sK h (fun hb26 h => ?_) fun hb26 h => ?_
   ·exact ja [0] h
   exact ja [0] h
  refine AW.tk h (fun hb27 h => ?_) fun hb27 h => ?_
  ·refine AW.ro ?_
   refine AW.ret ?_
   have h := up h hJ18
   cases h; refine nz ?_; exact .same _
  exact jo [0] h
 refine AW.jo h (fun _ => [(2, vB p2), (3, vB p3), (4, .ptr 0 6 0 0)]) (fun _ => [vE p0.enc]) (fun oJ29 h hJ29 => ?_) fun ⟨⟩ h => ?_
 ·refine AW.jn h (fun v30_0 => [(2, vB p2), (3, vB p3), (4, .ptr 0 6 0 0), (76, vB v30_0)]) (fun v30_0 => [vE p0.enc]) (fun oJ31 h => ?_) fun v30_0 h => ?_
  ·refine AW.rp ?_
   refine sK h (fun hb32 h => ?_) fun hb32 h => ?_
   ·refine sK h (fun hb33 h => ?_) fun hb33 h => ?_
    ·exact ja [0] h
    exact ja [0] h
   refine sK h (fun hb34 h => ?_) fun hb34 h => ?_
   ·exact ja [0] h
   exact ja [0] h
  refine AW.tk h (fun hb35 h => ?_) fun hb35 h => ?_
  ·refine AW.ro ?_
   refine AW.ret ?_
   have h := up h hJ29
   cases h; refine nz ?_; exact .same _
  exact jo [0] h
 refine AW.one ?_
 refine AW.ro ?_
 refine AW.ks [0] [2, 3, 4, 79] ?_
 refine AW.tk h (fun hb36 h => ?_) fun hb36 h => ?_
 ·refine AW.ro ?_
  refine cm h (hself111 _ _) fun r37 hx38 h => ?_
  refine AW.ret ?_
  cases h; refine nz ?_; exact .same _
 refine AW.kr [0] [2, 3, 4] ?_
 refine cm h r08_kids_ok fun r39 hx40 h => ?_
 refine AW.ks [0] [2, 3, 4, 9] ?_
 refine AW.jn h (fun v41_0 => [(2, vB p2), (3, vB p3), (4, .ptr 0 6 0 0), (9, vS v41_0)]) (fun v41_0 => [vE p0.enc]) (fun oJ42 h => ?_) fun v41_0 h => ?_
 ·refine AW.jn h (fun v43_0 => [(2, vB p2), (3, vB p3), (4, .ptr 0 6 0 0), (9, vS r39), (94, vB v43_0)]) (fun v43_0 => [vE p0.enc]) (fun oJ44 h => ?_) fun v43_0 h => ?_
  ·refine AW.rp ?_
   refine sK h (fun hb45 h => ?_) fun hb45 h => ?_
   ·exact ja [0] h
   exact ja [0] h
  refine AW.tk h (fun hb46 h => ?_) fun hb46 h => ?_
  ·refine AW.ro ?_
   refine AW.ks [0] [2, 3, 4, 9, 98] ?_
   refine AW.tk h (fun hb47 h => ?_) fun hb47 h => ?_
   ·refine AW.rp ?_
    exact ja [0] h
   exact ja [0] h
  exact ja [0] h
 refine AW.one ?_
 refine AW.ro ?_
 refine AW.ks [0] [2, 3, 4, 9, 104] ?_
 refine AW.tk h (fun hb48 h => ?_) fun hb48 h => ?_
 ·refine AW.ro ?_
  refine AW.ret ?_
  cases h; refine nz ?_; exact .same _
 refine AW.ks [0] [2, 3, 4, 9] ?_
 refine AW.one ?_
 refine AW.ro ?_
 refine AW.ks [0] [2, 3, 4, 9, 10] ?_
 refine AW.lp h (fun _ => [(4, .ptr 0 6 0 0)]) (fun _ => [vE p0.enc]) (fun i49_0 => [(2, vB p2), (3, vB p3), (4, .ptr 0 6 0 0), (9, vS v41_0), (10, vI i49_0)]) (fun i49_0 => [vE p0.enc]) [0] (fun oJ52 hJ52 again i49_0 h => ?_) fun ⟨⟩ h => ?_
 ·refine AW.one ?_
  refine AW.ro ?_
  refine AW.ks [0] [2, 3, 4, 9, 10, 108] ?_
  refine AW.tt h (fun hb53 h => ?_) fun hb53 h => ?_
  ·refine AW.sk ?_
   refine AW.ks [0] [2, 3, 4, 9, 10] ?_
   refine AW.jo h (fun _ => [(2, vB p2), (3, vB p3), (4, .ptr 0 6 0 0), (9, vS v41_0), (10, vI i49_0)]) (fun _ => [vE p0.enc]) (fun oJ55 h hJ55 => ?_) fun ⟨⟩ h => ?_
   ·refine AW.block ?_
    refine AW.jn h (fun v56_0 => [(2, vB p2), (3, vB p3), (4, .ptr 0 6 0 0), (9, vS v41_0), (10, vI i49_0), (134, vB v56_0)]) (fun v56_0 => [vE p0.enc]) (fun oJ57 h => ?_) fun v56_0 h => ?_
    ·refine AW.rp ?_
     refine bx h fun x58 h0 h1 h => ?_
     refine bb h fun c60 hx61 h => ?_
     refine sK h (fun hb62 h => ?_) fun hb62 h => ?_
     ·refine sK h (fun hb63 h => ?_) fun hb63 h => ?_
      ·refine pm h (hself71 _ _) fun r64 hx65 h => ?_
       exact ja [0] h
      refine pm h (hself71 _ _) fun r66 hx67 h => ?_
      exact ja [0] h
     refine sK h (fun hb68 h => ?_) fun hb68 h => ?_
     ·refine pm h (hself71 _ _) fun r69 hx70 h => ?_
      exact ja [0] h
     refine pm h (hself71 _ _) fun r71 hx72 h => ?_
     exact ja [0] h
    refine AW.tk h (fun hb73 h => ?_) fun hb73 h => ?_
    ·refine AW.ro ?_
     refine AW.ret ?_
     have h := up h hJ55
     have h := up h hJ52
     cases h; refine nz ?_; exact .same _
    exact jo [0] h
   refine AW.rp ?_
   exact na [0] h
  refine AW.ex ?_
  exact jo [0] h
 refine AW.ks [0] [4] ?_
 refine AW.one ?_
 refine AW.ro ?_
 refine AW.ks [0] [4, 136] ?_
 refine AW.block ?_
 refine AW.ro ?_
 refine AW.ks [0] [4, 136, 137] ?_
 refine AW.tt h (fun hb74 h => ?_) fun hb74 h => ?_
 ·refine AW.ro ?_
  refine bx h fun x75 h0 h1 h => ?_
  refine sK h (fun hb77 h => ?_) fun hb77 h => ?_
  ·refine AW.ret ?_
   cases h; refine nz ?_; exact .same _
  refine AW.ret ?_
  cases h; refine nz ?_; exact .same _
 refine AW.ro ?_
 refine AW.ks [0] [4, 136, 155] ?_
 refine AW.tt h (fun hb78 h => ?_) fun hb78 h => ?_
 ·refine AW.ro ?_
  refine bx h fun x79 h0 h1 h => ?_
  refine sK h (fun hb81 h => ?_) fun hb81 h => ?_
  ·refine cm h r08_Natural_ok fun r82 hx83 h => ?_
   refine AW.ret ?_
   cases h; refine nz ?_; exact .same _
  refine AW.ret ?_
  cases h; refine nz ?_; exact .same _
 refine AW.ro ?_
 refine AW.ks [0] [4, 172] ?_
 refine AW.tk h (fun hb84 h => ?_) fun hb84 h => ?_
 ·refine AW.ro ?_
  refine bx h fun x85 h0 h1 h => ?_
  refine cm h r08_differential_ok fun r87 hx88 h => ?_
  refine AW.ret ?_
  cases h; refine nz ?_; exact .same _
 refine AW.kr [] [] ?_
 refine AW.ret ?_
 cases h; refine nz ?_; exact .same _
/-! ### isochrone/isochroneref08.flow -/
def r08_flow_body (K : Nat) (self71 : (NodeA × Int × Bool × Bool) → Option Bool) (self111 : (NodeA × Bool × Bool) → Option Bool) (p0 : NodeA) (p1 : Bool) (p2 : Bool) : Option Bool := ((
  ((
   if (decide ((p0.kids.length : Int) < (2 : Int))) then
    some true
   else
    (r08_primed K p0).bind fun r6 =>
    if r6 then
     some true
    else
     (idx p0.kids (IntKind.wrap .i64 ((p0.kids.length : Int) - (1 : Int)))).bind fun x9 =>
     (self71 (x9, (2 : Int), p1, p2)).bind fun r11 =>
     some (!r11)) : Option Bool).bind (fun v3_0 =>
  if v3_0 then
   outM (
    some false)
  else
   some (.go ()))) : Option (Out Unit _)).bind (Out.fin fun _ =>
 ((iter (S := Int) (R := Out Unit _) K (fun again i14_0 =>
  if (decide (i14_0 < (IntKind.wrap .i64 ((p0.kids.length : Int) - (1 : Int))))) then
   ((
    (idx p0.kids i14_0).bind fun x21 =>
    ((
     ((
      if (x21.op == (56 : Int)) then
       if (decide (i14_0 < (IntKind.wrap .i64 ((p0.kids.length : Int) - (2 : Int))))) then
        some true
       else
        if (x21.op != (56 : Int)) then
         if (x21.op != (55 : Int)) then
          some true
         else
          (self71 (x21, (4 : Int), p1, p2)).bind fun r31 =>
          some (!r31)
        else
         (self71 (x21, (4 : Int), p1, p2)).bind fun r33 =>
         some (!r33)
      else
       if (x21.op != (56 : Int)) then
        if (x21.op != (55 : Int)) then
         some true
        else
         (self71 (x21, (4 : Int), p1, p2)).bind fun r37 =>
         some (!r37)
       else
        (self71 (x21, (4 : Int), p1, p2)).bind fun r39 =>
        some (!r39)) : Option Bool).bind (fun v25_0 =>
     if v25_0 then
      outM (
       outM (
        outM (
         some false)))
     else
      some (.go ()))) : Option (Out Unit _)).bind (Out.fin fun _ =>
    ((iter (S := Int) (R := Out Unit _) K (fun again i42_0 =>
     if (decide (i42_0 < i14_0)) then
      ((
       ((
        if (x21.op == (55 : Int)) then
         (idx p0.kids i42_0).bind fun x52 =>
         some (x52.name.toList == x21.name.toList)
        else
         some false) : Option Bool).bind (fun v49_0 =>
       if v49_0 then
        outM (
         outM (
          outM (
           outM (
            some false))))
       else
        some (.go ()))) : Option (Out Unit _)).bind (Out.fin fun _ =>
      again (IntKind.wrap .i64 (i42_0 + (1 : Int))))
     else
      some (.go ())) (0 : Int)) : Option (Out Unit _)).bind (Out.fin fun _ =>
    some (.go ())))) : Option (Out Unit _)).bind (Out.fin fun _ =>
   again (IntKind.wrap .i64 (i14_0 + (1 : Int))))
  else
   some (.go ())) (0 : Int)) : Option (Out Unit _)).bind (Out.fin fun _ =>
 some true))
set_option maxHeartbeats 4000000 in
theorem r08_flow_step (K : Nat) (self71 : (NodeA × Int × Bool × Bool) → Option Bool) (self111 : (NodeA × Bool × Bool) → Option Bool) (hself71 : ∀ (q : NodeA × Int × Bool × Bool) (r : Bool), self71 q = some r → Cn Tryz.prog 71 [aggV q.1.enc, .d (.val (.int .i64 q.2.1)), .d (.val (.bool q.2.2.1)), .d (.val (.bool q.2.2.2))] (.d (.val (.bool r)))) (hself111 : ∀ (q : NodeA × Bool × Bool) (r : Bool), self111 q = some r → Cn Tryz.prog 111 [aggV q.1.enc, .d (.val (.bool q.2.1)), .d (.val (.bool q.2.2))] (.d (.val (.bool r)))) (p0 : NodeA) (p1 : Bool) (p2 : Bool) (r : Bool) (h : r08_flow_body K self71 self111 p0 p1 p2 = some r) : Cn Tryz.prog 111 [aggV p0.enc, .d (.val (.bool p1)), .d (.val (.bool p2))] (.d (.val (.bool r))) := by
 refine Cn.oz Tryz.func111 Tryz.call111 Tryz.ntmps111 Tryz.results111 fun hfit => ?_
 unfold r08_flow_body at h
 refine AW.kr [] [0, 1, 2] ?_
 refine AW.kr [0] [1, 2, 3] ?_
 refine AW.ks [0] [1, 2, 3, 7] ?_
 refine AW.jo h (fun _ => [(1, vB p1), (2, vB p2), (3, .ptr 0 6 0 0), (7, vI (p0.kids.length : Int))]) (fun _ => [vE p0.enc]) (fun oJ2 h hJ2 => ?_) fun ⟨⟩ h => ?_
 ·refine AW.jn h (fun v3_0 => [(1, vB p1), (2, vB p2), (3, .ptr 0 6 0 0), (7, vI (p0.kids.length : Int)), (31, vB v3_0)]) (fun v3_0 => [vE p0.enc]) (fun oJ4 h => ?_) fun v3_0 h => ?_
  ·refine AW.rp ?_
   refine sK h (fun hb5 h => ?_) fun hb5 h => ?_
   ·exact ja [0] h
   refine cm h r08_primed_ok fun r6 hx7 h => ?_
   refine sK h (fun hb8 h => ?_) fun hb8 h => ?_
   ·exact ja [0] h
   refine bx h fun x9 h0 h1 h => ?_
   refine cm h (hself71 _ _) fun r11 hx12 h => ?_
   exact ja [0] h
  refine AW.tk h (fun hb13 h => ?_) fun hb13 h => ?_
  ·refine AW.ro ?_
   refine AW.ret ?_
   have h := up h hJ2
   cases h; refine nz ?_; exact .same _
  exact jo [0] h
 refine AW.one ?_
 refine AW.ro ?_
 refine AW.ks [0] [1, 2, 3, 7, 8] ?_
 refine AW.lp h (fun _ => []) (fun _ => []) (fun i14_0 => [(1, vB p1), (2, vB p2), (3, .ptr 0 6 0 0), (7, vI (p0.kids.length : Int)), (8, vI i14_0)]) (fun i14_0 => [vE p0.enc]) [0] (fun oJ17 hJ17 again i14_0 h => ?_) fun ⟨⟩ h => ?_
 ·refine AW.one ?_
  refine AW.ro ?_
  refine AW.ks [0] [1, 2, 3, 7, 8, 35] ?_
  refine AW.tt h (fun hb18 h => ?_) fun hb18 h => ?_
  ·refine AW.sk ?_
   refine AW.ks [0] [1, 2, 3, 7, 8] ?_
   refine AW.jo h (fun _ => [(1, vB p1), (2, vB p2), (3, .ptr 0 6 0 0), (7, vI (p0.kids.length : Int)), (8, vI i14_0)]) (fun _ => [vE p0.enc]) (fun oJ20 h hJ20 => ?_) fun ⟨⟩ h => ?_
   ·refine AW.block ?_
    refine AW.ro ?_
    refine bx h fun x21 h0 h1 h => ?_
    refine AW.ks [0, 6] [1, 2, 3, 7, 8, 9] ?_
    refine AW.jo h (fun _ => [(1, vB p1), (2, vB p2), (3, .ptr 0 6 0 0), (7, vI (p0.kids.length : Int)), (8, vI i14_0), (9, .ptr 1 6 0 0)]) (fun _ => [vE p0.enc, vE x21.enc]) (fun oJ24 h hJ24 => ?_) fun ⟨⟩ h => ?_
    ·refine AW.jn h (fun v25_0 => [(1, vB p1), (2, vB p2), (3, .ptr 0 6 0 0), (7, vI (p0.kids.length : Int)), (8, vI i14_0), (9, .ptr 1 6 0 0), (68, vB v25_0)]) (fun v25_0 => [vE p0.enc, vE x21.enc]) (fun oJ26 h => ?_) fun v25_0 h => ?_
     ·refine AW.rp ?_
      refine sK h (fun hb27 h => ?_) fun hb27 h => ?_
      ·refine sK h (fun hb28 h => ?_) fun hb28 h => ?_
       ·exact ja [0, 1] h
       refine sK h (fun hb29 h => ?_) fun hb29 h => ?_
       ·refine sK h (fun hb30 h => ?_) fun hb30 h => ?_
        ·exact ja [0, 1] h
        refine cm h (hself71 _ _) fun r31 hx32 h => ?_
        exact ja [0, 1] h
       refine cm h (hself71 _ _) fun r33 hx34 h => ?_
       exact ja [0, 1] h
      refine sK h (fun hb35 h => ?_) fun hb35 h => ?_
      ·refine sK h (fun hb36 h => ?_) fun hb36 h => ?_
       ·exact ja [0, 1] h
       refine cm h (hself71 _ _) fun r37 hx38 h => ?_
       exact ja [0, 1] h
      refine cm h (hself71 _ _) fun r39 hx40 h => ?_
      exact ja [0, 1] h
     refine AW.tk h (fun hb41 h => ?_) fun hb41 h => ?_
     ·refine AW.ro ?_
      refine AW.ret ?_
      have h := up h hJ24
      have h := up h hJ20
      have h := up h hJ17
      cases h; refine nz ?_; exact .same _
     exact jo [0, 1] h
    refine AW.ro ?_
    refine AW.ks [0, 1] [1, 2, 3, 7, 8, 9, 10] ?_
    refine AW.lp h (fun _ => [(1, vB p1), (2, vB p2), (3, .ptr 0 6 0 0), (7, vI (p0.kids.length : Int)), (8, vI i14_0)]) (fun _ => [vE p0.enc]) (fun i42_0 => [(1, vB p1), (2, vB p2), (3, .ptr 0 6 0 0), (7, vI (p0.kids.length : Int)), (8, vI i14_0), (9, .ptr 1 6 0 0), (10, vI i42_0)]) (fun i42_0 => [vE p0.enc, vE x21.enc]) [0, 1] (fun oJ45 hJ45 again i42_0 h => ?_) fun ⟨⟩ h => ?_
    ·refine AW.one ?_
     refine AW.ro ?_
     refine AW.ks [0, 1] [1, 2, 3, 7, 8, 9, 10, 71] ?_
     refine AW.tt h (fun hb46 h => ?_) fun hb46 h => ?_
     ·refine AW.sk ?_
      refine AW.ks [0, 1] [1, 2, 3, 7, 8, 9, 10] ?_
      refine AW.jo h (fun _ => [(1, vB p1), (2, vB p2), (3, .ptr 0 6 0 0), (7, vI (p0.kids.length : Int)), (8, vI i14_0), (9, .ptr 1 6 0 0), (10, vI i42_0)]) (fun _ => [vE p0.enc, vE x21.enc]) (fun oJ48 h hJ48 => ?_) fun ⟨⟩ h => ?_
      ·refine AW.block ?_
       refine AW.jn h (fun v49_0 => [(1, vB p1), (2, vB p2), (3, .ptr 0 6 0 0), (7, vI (p0.kids.length : Int)), (8, vI i14_0), (9, .ptr 1 6 0 0), (10, vI i42_0), (87, vB v49_0)]) (fun v49_0 => [vE p0.enc, vE x21.enc]) (fun oJ50 h => ?_) fun v49_0 h => ?_
       ·refine AW.rp ?_
        refine sK h (fun hb51 h => ?_) fun hb51 h => ?_
        ·refine bx h fun x52 h0 h1 h => ?_
         exact ja [0, 1] h
        exact ja [0, 1] h
       refine AW.tk h (fun hb54 h => ?_) fun hb54 h => ?_
       ·refine AW.ro ?_
        refine AW.ret ?_
        have h := up h hJ48
        have h := up h hJ45
        have h := up h hJ20
        have h := up h hJ17
        cases h; refine nz ?_; exact .same _
       exact jo [0, 1] h
      refine AW.rp ?_
      exact na [0, 1] h
     refine AW.ex ?_
     exact jo [0] h
    exact jo [0] h
   refine AW.rp ?_
   exact na [0] h
  refine AW.ex ?_
  exact jo [] h
 refine AW.kr [] [] ?_
 refine AW.ret ?_
 cases h; refine nz ?_; exact .same _
def grp_r08_well (K : Nat) : Nat → ((NodeA × Int × Bool × Bool) → Option Bool) × ((NodeA × Bool × Bool) → Option Bool)
 | 0 => (fun _ => none, fun _ => none)
 | k + 1 => (fun q => r08_well_body K (grp_r08_well K k).1 (grp_r08_well K k).2 q.1 q.2.1 q.2.2.1 q.2.2.2, fun q => r08_flow_body K (grp_r08_well K k).1 (grp_r08_well K k).2 q.1 q.2.1 q.2.2)
def r08_well (K : Nat) (p0 : NodeA) (p1 : Int) (p2 : Bool) (p3 : Bool) : Option Bool := (grp_r08_well K K).1 (p0, p1, p2, p3)
theorem key_r08_well {K : Nat} (k : Nat) : (∀ (q : NodeA × Int × Bool × Bool) (r : Bool), (grp_r08_well K k).1 q = some r → Cn Tryz.prog 71 [aggV q.1.enc, .d (.val (.int .i64 q.2.1)), .d (.val (.bool q.2.2.1)), .d (.val (.bool q.2.2.2))] (.d (.val (.bool r)))) ∧ (∀ (q : NodeA × Bool × Bool) (r : Bool), (grp_r08_well K k).2 q = some r → Cn Tryz.prog 111 [aggV q.1.enc, .d (.val (.bool q.2.1)), .d (.val (.bool q.2.2))] (.d (.val (.bool r)))) := by
 induction k with
 | zero => exact ⟨(fun q r h => nomatch (show (none : Option _) = some r from h)), (fun q r h => nomatch (show (none : Option _) = some r from h))⟩
 | succ k ih => exact ⟨fun q r h => r08_well_step K _ _ ih.1 ih.2 q.1 q.2.1 q.2.2.1 q.2.2.2 r h, fun q r h => r08_flow_step K _ _ ih.1 ih.2 q.1 q.2.1 q.2.2 r h⟩
theorem r08_well_ok {K : Nat} {p0 : NodeA} {p1 : Int} {p2 : Bool} {p3 : Bool} {r : Bool} (h : r08_well K p0 p1 p2 p3 = some r) : Cn Tryz.prog 71 [aggV p0.enc, .d (.val (.int .i64 p1)), .d (.val (.bool p2)), .d (.val (.bool p3))] (.d (.val (.bool r))) := (key_r08_well K).1 (p0, p1, p2, p3) r h
/-! ### isochrone/isochroneref08.Check -/
def r08_Check (K : Nat) (p0 : NodeA) (p1 : Int) : Option Int := ((
  if (decide (p1 < (1 : Int))) then
   some true
  else
   some (decide ((3 : Int) < p1))) : Option Bool).bind (fun v1_0 =>
 if v1_0 then
  some (1 : Int)
 else
  ((
   (r08_Size K p0).bind fun r7 =>
   if (decide ((4000 : Int) < r7)) then
    some true
   else
    (r08_Levels K p0).bind fun r10 =>
    some (decide ((60 : Int) < r10))) : Option Bool).bind (fun v5_0 =>
  if v5_0 then
   some (2 : Int)
  else
   (r08_Sort K p0.op).bind fun r13 =>
   if (r13 != p1) then
    some (80 : Int)
   else
    (r08_well K p0 p1 false false).bind fun r16 =>
    if (!r16) then
     some (3 : Int)
    else
     some (0 : Int)))
set_option maxHeartbeats 4000000 in
theorem r08_Check_ok {K : Nat} {p0 : NodeA} {p1 : Int} {r : Int} (h : r08_Check K p0 p1 = some r) : Cn Tryz.prog 29 [aggV p0.enc, .d (.val (.int .i64 p1))] (.d (.val (.int .i64 r))) := by
 refine Cn.oz Tryz.func29 Tryz.call29 Tryz.ntmps29 Tryz.results29 fun hfit => ?_
 unfold r08_Check at h
 refine AW.kr [] [0, 1] ?_
 refine AW.ks [0] [1, 2] ?_
 refine AW.one ?_
 refine AW.block ?_
 refine AW.jn h (fun v1_0 => [(1, vI p1), (2, .ptr 0 6 0 0), (5, vB v1_0)]) (fun v1_0 => [vE p0.enc]) (fun oJ2 h => ?_) fun v1_0 h => ?_
 ·refine AW.rp ?_
  refine sK h (fun hb3 h => ?_) fun hb3 h => ?_
  ·exact ja [0] h
  exact ja [0] h
 refine AW.tt h (fun hb4 h => ?_) fun hb4 h => ?_
 ·refine AW.ro ?_
  refine AW.ret ?_
  cases h; refine nz ?_; exact .same _
 refine AW.jn h (fun v5_0 => [(1, vI p1), (2, .ptr 0 6 0 0), (12, vB v5_0)]) (fun v5_0 => [vE p0.enc]) (fun oJ6 h => ?_) fun v5_0 h => ?_
 ·refine AW.rp ?_
  refine cm h r08_Size_ok fun r7 hx8 h => ?_
  refine sK h (fun hb9 h => ?_) fun hb9 h => ?_
  ·exact ja [0] h
  refine cm h r08_Levels_ok fun r10 hx11 h => ?_
  exact ja [0] h
 refine AW.tt h (fun hb12 h => ?_) fun hb12 h => ?_
 ·refine AW.ro ?_
  refine AW.ret ?_
  cases h; refine nz ?_; exact .same _
 refine AW.ro ?_
 refine cm h r08_Sort_ok fun r13 hx14 h => ?_
 refine AW.ks [0] [1, 2, 21] ?_
 refine AW.tt h (fun hb15 h => ?_) fun hb15 h => ?_
 ·refine AW.ro ?_
  refine AW.ret ?_
  cases h; refine nz ?_; exact .same _
 refine AW.ro ?_
 refine cm h r08_well_ok fun r16 hx17 h => ?_
 refine AW.ks [] [27] ?_
 refine AW.tk h (fun hb18 h => ?_) fun hb18 h => ?_
 ·refine AW.ro ?_
  refine AW.ret ?_
  cases h; refine nz ?_; exact .same _
 refine AW.kr [] [] ?_
 refine AW.ret ?_
 cases h; refine nz ?_; exact .same _
/-! ### isochrone/isochroneref10.check -/
def r10_check (K : Nat) (p0 : NodeA) : Option Int := (r08_Sort K p0.op).bind fun r1 =>
 ((
  ((
   if (r1 == (0 : Int)) then
    some true
   else
    some (r1 == (4 : Int))) : Option Bool).bind (fun v5_0 =>
  if v5_0 then
   outM (
    some (80 : Int))
  else
   some (.go ()))) : Option (Out Unit _)).bind (Out.fin fun _ =>
 (r08_Check K p0 r1).bind fun r9 =>
 some r9)
set_option maxHeartbeats 4000000 in
theorem r10_check_ok {K : Nat} {p0 : NodeA} {r : Int} (h : r10_check K p0 = some r) : Cn Tryz.prog 17 [aggV p0.enc] (.d (.val (.int .i64 r))) := by
 refine Cn.oz Tryz.func17 Tryz.call17 Tryz.ntmps17 Tryz.results17 fun hfit => ?_
 unfold r10_check at h
 refine AW.kr [] [0] ?_
 refine AW.kr [0] [1] ?_
 refine cm h r08_Sort_ok fun r1 hx2 h => ?_
 refine AW.ks [0] [1, 3] ?_
 refine AW.jo h (fun _ => [(1, .ptr 0 6 0 0), (3, vI r1)]) (fun _ => [vE p0.enc]) (fun oJ4 h hJ4 => ?_) fun ⟨⟩ h => ?_
 ·refine AW.jn h (fun v5_0 => [(1, .ptr 0 6 0 0), (3, vI r1), (12, vB v5_0)]) (fun v5_0 => [vE p0.enc]) (fun oJ6 h => ?_) fun v5_0 h => ?_
  ·refine AW.rp ?_
   refine sK h (fun hb7 h => ?_) fun hb7 h => ?_
   ·exact ja [0] h
   exact ja [0] h
  refine AW.tk h (fun hb8 h => ?_) fun hb8 h => ?_
  ·refine AW.ro ?_
   refine AW.ret ?_
   have h := up h hJ4
   cases h; refine nz ?_; exact .same _
  exact jo [0] h
 refine AW.ro ?_
 refine cm h r08_Check_ok fun r9 hx10 h => ?_
 refine AW.ret ?_
 cases h; refine nz ?_; exact .same _
/-! ### isochrone/isochroneref10.Head -/
def r10_Head (K : Nat) (p0 : NodeA) : Option NodeA := ((
  if (decide ((0 : Int) < (p0.kids.length : Int))) then
   some [(NodeA.mk (13 : Int) (⟨#[]⟩ : ByteArray) (RatA.mk false [] []) [])]
  else
   some []) : Option (List NodeA)).bind (fun v1_0 =>
 some (NodeA.mk p0.op p0.name (RatA.mk false [] []) v1_0))
set_option maxHeartbeats 4000000 in
theorem r10_Head_ok {K : Nat} {p0 : NodeA} {r : NodeA} (h : r10_Head K p0 = some r) : Cn Tryz.prog 42 [aggV p0.enc] (aggV r.enc) := by
 refine Cn.oz Tryz.func42 Tryz.call42 Tryz.ntmps42 Tryz.results42 fun hfit => ?_
 unfold r10_Head at h
 refine AW.kr [] [0] ?_
 refine AW.kr [0, 1] [1, 2] ?_
 refine AW.ks [0, 1, 7] [1, 2, 3] ?_
 refine AW.jn h (fun v1_0 => [(2, .ptr 0 6 0 0), (3, .ptr 1 6 0 0)]) (fun v1_0 => [some ⟨6, [[vI (0 : Int), vS (⟨#[]⟩ : ByteArray), vB false, .d (.val (.slice none 0 0)), .d (.val (.slice none 0 0)), .d (.val (.slice none 0 0))]]⟩, some ⟨6, [[vI p0.op, vS p0.name, vB false, .d (.val (.slice none 0 0)), .d (.val (.slice none 0 0)), vL NodeA.enc v1_0]]⟩]) (fun oJ2 h => ?_) fun v1_0 h => ?_
 ·refine AW.ro ?_
  refine AW.ks [1, 2] [2, 3, 12] ?_
  refine AW.tk h (fun hb3 h => ?_) fun hb3 h => ?_
  ·refine AW.rp ?_
   refine JoinQ.mkS [(NodeA.mk (13 : Int) (⟨#[]⟩ : ByteArray) (RatA.mk false [] []) [])] [0, 1] [] [] [(1, ⟨6, [[.d (.val (.int .i64 p0.op)), .d (.val (.string p0.name)), .d (.val (.bool false)), .d (.val (.slice none 0 0)), .d (.val (.slice none 0 0)), .d (slD NodeA.enc [(NodeA.mk (13 : Int) (⟨#[]⟩ : ByteArray) (RatA.mk false [] []) [])])]]⟩)] (Option.some.inj h) (by simp only [go_sem, reduceEqDiff, reduceAdd, reduceSub, reduceMul, reduceLeDiff, reduceLT, Nat.reduceBEq, reduceIte, sealL_cons, sealL_nil]) (by simp only [go_sem, reduceEqDiff, reduceAdd, reduceSub, reduceMul, reduceLeDiff, reduceLT, Nat.reduceBEq, reduceIte, sealH_cons, sealH_nil]; exact ⟨⟨.same _, .same _, .same _, .same _, .same _, .d (.dn (.rows (by (try simp only [slD, NodeA.enc_eta, RatA.enc_eta, NodeA.op_mk, NodeA.name_mk, NodeA.num_mk, NodeA.kids_mk, aggV, i64V, u32V, strV, List.map_cons, List.map_nil]); exact ⟨⟨.refl _, .refl _, .refl _, .nil _ _, .nil _ _, .nil _ _, trivial⟩, trivial⟩))), trivial⟩, trivial⟩) (by simp only [go_sem, reduceEqDiff, reduceAdd, reduceSub, reduceMul, reduceLeDiff, reduceLT, Nat.reduceBEq, reduceIte])
  refine JoinQ.mkS [] [0, 1] [] [] [(1, ⟨6, [[.d (.val (.int .i64 p0.op)), .d (.val (.string p0.name)), .d (.val (.bool false)), .d (.val (.slice none 0 0)), .d (.val (.slice none 0 0)), .d (slD NodeA.enc [])]]⟩)] (Option.some.inj h) (by simp only [go_sem, reduceEqDiff, reduceAdd, reduceSub, reduceMul, reduceLeDiff, reduceLT, Nat.reduceBEq, reduceIte, sealL_cons, sealL_nil]) (by simp only [go_sem, reduceEqDiff, reduceAdd, reduceSub, reduceMul, reduceLeDiff, reduceLT, Nat.reduceBEq, reduceIte, sealH_cons, sealH_nil]; exact ⟨⟨.same _, .same _, .same _, .same _, .same _, .nil, trivial⟩, trivial⟩) (by simp only [go_sem, reduceEqDiff, reduceAdd, reduceSub, reduceMul, reduceLeDiff, reduceLT, Nat.reduceBEq, reduceIte])
 refine AW.ro ?_
 refine AW.ret ?_
 cases h; refine nz ?_; exact .aggL ⟨.same _, .same _, .same _, .nil, .nil, .same _, trivial⟩
/-! ### isochrone/isochroneref10.Symbol -/
def r10_Symbol (K : Nat) (p0 : NodeA) : Option Bool := ((
  if (p0.op == (10 : Int)) then
   some (p0.op == (10 : Int))
  else
   if (p0.op == (11 : Int)) then
    some (p0.op == (11 : Int))
   else
    if (p0.op == (37 : Int)) then
     some (p0.op == (37 : Int))
    else
     if (p0.op == (38 : Int)) then
      some (p0.op == (38 : Int))
     else
      if (p0.op == (61 : Int)) then
       some (p0.op == (61 : Int))
      else
       if (p0.op == (62 : Int)) then
        some (p0.op == (62 : Int))
       else
        some (p0.op == (56 : Int))) : Option Bool).bind (fun v1_0 =>
 if v1_0 then
  some true
 else
  some false)
set_option maxHeartbeats 4000000 in
theorem r10_Symbol_ok {K : Nat} {p0 : NodeA} {r : Bool} (h : r10_Symbol K p0 = some r) : Cn Tryz.prog 40 [aggV p0.enc] (.d (.val (.bool r))) := by
 refine Cn.oz Tryz.func40 Tryz.call40 Tryz.ntmps40 Tryz.results40 fun hfit => ?_
 unfold r10_Symbol at h
 refine AW.kr [] [0] ?_
 refine AW.ks [0] [1] ?_
 refine AW.one ?_
 refine AW.ro ?_
 refine AW.ks [] [4] ?_
 refine AW.block ?_
 refine AW.jn h (fun v1_0 => [(5, vB v1_0)]) (fun v1_0 => []) (fun oJ2 h => ?_) fun v1_0 h => ?_
 ·refine AW.ro ?_
  refine AW.ks [] [4, 5] ?_
  refine AW.tt h (fun hb3 h => ?_) fun hb3 h => ?_
  ·refine AW.sk ?_
   exact ja [] h
  refine AW.ro ?_
  refine AW.ks [] [4, 5] ?_
  refine AW.tt h (fun hb4 h => ?_) fun hb4 h => ?_
  ·refine AW.sk ?_
   exact ja [] h
  refine AW.ro ?_
  refine AW.ks [] [4, 5] ?_
  refine AW.tt h (fun hb5 h => ?_) fun hb5 h => ?_
  ·refine AW.sk ?_
   exact ja [] h
  refine AW.ro ?_
  refine AW.ks [] [4, 5] ?_
  refine AW.tt h (fun hb6 h => ?_) fun hb6 h => ?_
  ·refine AW.sk ?_
   exact ja [] h
  refine AW.ro ?_
  refine AW.ks [] [4, 5] ?_
  refine AW.tt h (fun hb7 h => ?_) fun hb7 h => ?_
  ·refine AW.sk ?_
   exact ja [] h
  refine AW.ro ?_
  refine AW.ks [] [4, 5] ?_
  refine AW.tt h (fun hb8 h => ?_) fun hb8 h => ?_
  ·refine AW.sk ?_
   exact ja [] h
  refine AW.rp ?_
  exact ja [] h
 refine AW.tk h (fun hb9 h => ?_) fun hb9 h => ?_
 ·refine AW.ro ?_
  refine AW.ret ?_
  cases h; refine nz ?_; exact .same _
 refine AW.kr [] [] ?_
 refine AW.ret ?_
 cases h; refine nz ?_; exact .same _
/-! ### isochrone/isochroneref10.put -/
def r10_put (K : Nat) (p0 : List NodeA) (p1 : NodeA) : Option (List NodeA) := ((iter (S := Bool × Int × (List NodeA)) (R := Out (Bool × (List NodeA)) _) K (fun again (i1_0, i1_1, i1_2) =>
  if (decide (i1_1 < (p0.length : Int))) then
   ((
    (idx p0 i1_1).bind fun x8 =>
    (r08_Compare K x8 p1).bind fun r10 =>
    if (r10 == (0 : Int)) then
     outM (
      outM (
       some p0))
    else
     ((
      ((
       if (decide ((0 : Int) < r10)) then
        some (!i1_0)
       else
        some false) : Option Bool).bind (fun v15_0 =>
      if v15_0 then
       (appO 104 i1_2 [p1]).bind fun l19 =>
       some (true, l19)
      else
       some (i1_0, i1_2))) : Option (Bool × (List NodeA))).bind (fun (v13_0, v13_1) =>
     (appO 104 v13_1 [x8]).bind fun l21 =>
     some (.go (v13_0, l21)))) : Option (Out (Bool × (List NodeA)) _)).bind (Out.fin fun (v6_0, v6_1) =>
   again (v6_0, IntKind.wrap .i64 (i1_1 + (1 : Int)), v6_1))
  else
   some (.go (i1_0, i1_2))) (false, (0 : Int), [])) : Option (Out (Bool × (List NodeA)) _)).bind (Out.fin fun (e2_0, e2_1) =>
 if (!e2_0) then
  (appO 104 e2_1 [p1]).bind fun l24 =>
  some l24
 else
  some e2_1)
set_option maxHeartbeats 4000000 in
theorem r10_put_ok {K : Nat} {p0 : List NodeA} {p1 : NodeA} {r : (List NodeA)} (h : r10_put K p0 p1 = some r) : Cn Tryz.prog 41 [.d (slD NodeA.enc p0), aggV p1.enc] (.d (slD NodeA.enc r)) := by
 refine Cn.oz Tryz.func41 Tryz.call41 Tryz.ntmps41 Tryz.results41 fun hfit => ?_
 unfold r10_put at h
 refine AW.kr [] [0, 1] ?_
 refine AW.kr [0] [0, 3] ?_
 refine AW.kr [0] [0, 3, 5] ?_
 refine AW.ks [0] [0, 3, 5, 6] ?_
 refine AW.one ?_
 refine AW.ro ?_
 refine AW.ks [0] [0, 3, 5, 6, 7] ?_
 refine AW.lp h (fun (e2_0, e2_1) => [(3, .ptr 0 6 0 0), (5, accV 1 6 ((e2_1.map NodeA.enc).map (·.map .d))), (6, vB e2_0)]) (fun (e2_0, e2_1) => [vE p1.enc, accO 6 ((e2_1.map NodeA.enc).map (·.map .d))]) (fun (i1_0, i1_1, i1_2) => [(0, vL NodeA.enc p0), (3, .ptr 0 6 0 0), (5, accV 1 6 ((i1_2.map NodeA.enc).map (·.map .d))), (6, vB i1_0), (7, vI i1_1)]) (fun (i1_0, i1_1, i1_2) => [vE p1.enc, accO 6 ((i1_2.map NodeA.enc).map (·.map .d))]) [0, 1001] (fun oJ4 hJ4 again ⟨i1_0, i1_1, i1_2⟩ h => ?_) fun ⟨e2_0, e2_1⟩ h => ?_
 ·try dsimp only at h
  refine AW.one ?_
  refine AW.ro ?_
  refine AW.ks [0, 1] [0, 3, 5, 6, 7, 12] ?_
  refine AW.tt h (fun hb5 h => ?_) fun hb5 h => ?_
  ·refine AW.sk ?_
   refine AW.ks [0, 1] [0, 3, 5, 6, 7] ?_
   refine AW.jo h (fun (v6_0, v6_1) => [(0, vL NodeA.enc p0), (3, .ptr 0 6 0 0), (5, accV 1 6 ((v6_1.map NodeA.enc).map (·.map .d))), (6, vB v6_0), (7, vI i1_1)]) (fun (v6_0, v6_1) => [vE p1.enc, accO 6 ((v6_1.map NodeA.enc).map (·.map .d))]) (fun oJ7 h hJ7 => ?_) fun ⟨v6_0, v6_1⟩ h => ?_
   ·refine AW.block ?_
    refine AW.ro ?_
    refine bx h fun x8 h0 h1 h => ?_
    refine pm h r08_Compare_ok fun r10 hx11 h => ?_
    refine AW.ks [0, 1] [0, 3, 5, 6, 7, 8] ?_
    refine AW.one ?_
    refine AW.ro ?_
    refine AW.ks [0, 1] [0, 3, 5, 6, 7, 8, 22] ?_
    refine AW.tk h (fun hb12 h => ?_) fun hb12 h => ?_
    ·refine AW.ro ?_
     refine AW.ret ?_
     have h := up h hJ7
     have h := up h hJ4
     cases h; refine nz ?_; exact .same _
    refine AW.ks [0, 1] [0, 3, 5, 6, 7, 8] ?_
    refine AW.jn h (fun (v13_0, v13_1) => [(0, vL NodeA.enc p0), (3, .ptr 0 6 0 0), (5, accV 1 6 ((v13_1.map NodeA.enc).map (·.map .d))), (6, vB v13_0), (7, vI i1_1)]) (fun (v13_0, v13_1) => [vE p1.enc, accO 6 ((v13_1.map NodeA.enc).map (·.map .d))]) (fun oJ14 h => ?_) fun ⟨v13_0, v13_1⟩ h => ?_
    ·refine AW.jn h (fun v15_0 => [(0, vL NodeA.enc p0), (3, .ptr 0 6 0 0), (5, accV 1 6 ((i1_2.map NodeA.enc).map (·.map .d))), (6, vB i1_0), (7, vI i1_1), (29, vB v15_0)]) (fun v15_0 => [vE p1.enc, accO 6 ((i1_2.map NodeA.enc).map (·.map .d))]) (fun oJ16 h => ?_) fun v15_0 h => ?_
     ·refine AW.rp ?_
      refine sK h (fun hb17 h => ?_) fun hb17 h => ?_
      ·exact ja [0, 1] h
      exact ja [0, 1] h
     refine AW.tk h (fun hb18 h => ?_) fun hb18 h => ?_
     ·refine AW.ro ?_
      refine ag (f := NodeA.enc) h fun l19 hx20 h => ?_
      refine AW.ks [0, 5] [0, 3, 5, 7] ?_
      refine AW.rp ?_
      exact ja [0, 1] h
     exact ja [0, 1] h
    try dsimp only at h
    refine AW.rp ?_
    refine ag (f := NodeA.enc) h fun l21 hx22 h => ?_
    exact jo [0, 8] h
   try dsimp only at h
   refine AW.rp ?_
   exact na [0, 1] h
  refine AW.ex ?_
  exact jo [0, 1] h
 try dsimp only at h
 refine AW.ks [0, 1] [3, 5, 6] ?_
 refine AW.one ?_
 refine AW.ro ?_
 refine AW.ks [0, 1] [3, 5, 42] ?_
 refine AW.tk h (fun hb23 h => ?_) fun hb23 h => ?_
 ·refine AW.rp ?_
  refine ag (f := NodeA.enc) h fun l24 hx25 h => ?_
  refine AW.kr [5] [5] ?_
  refine AW.ret ?_
  cases h; refine nz ?_; exact sealAcc (by simp only [go_sem, reduceEqDiff, reduceAdd, reduceSub, reduceMul, reduceLeDiff, reduceLT, Nat.reduceBEq, reduceIte])
 refine AW.kr [1] [5] ?_
 refine AW.ret ?_
 cases h; refine nz ?_; exact sealAcc (by simp only [go_sem, reduceEqDiff, reduceAdd, reduceSub, reduceMul, reduceLeDiff, reduceLT, Nat.reduceBEq, reduceIte])
/-! ### isochrone/isochroneref10.heads -/
def r10_heads_body (K : Nat) (self18 : ((List NodeA) × NodeA) → Option (List NodeA)) (p0 : List NodeA) (p1 : NodeA) : Option (List NodeA) := ((
  (r10_Symbol K p1).bind fun r3 =>
  if r3 then
   (r10_Head K p1).bind fun r6 =>
   (r10_put K p0 r6).bind fun r8 =>
   some r8
  else
   some p0) : Option (List NodeA)).bind (fun v1_0 =>
 ((iter (S := (List NodeA) × Int) (R := (List NodeA)) K (fun again (i10_0, i10_1) =>
  if (decide (i10_1 < (p1.kids.length : Int))) then
   (idx p1.kids i10_1).bind fun x15 =>
   (self18 (i10_0, x15)).bind fun r17 =>
   again (r17, IntKind.wrap .i64 (i10_1 + (1 : Int)))
  else
   some i10_0) (v1_0, (0 : Int))) : Option (List NodeA)).bind (fun e11_0 =>
 some e11_0))
set_option maxHeartbeats 4000000 in
theorem r10_heads_step (K : Nat) (self18 : ((List NodeA) × NodeA) → Option (List NodeA)) (hself18 : ∀ (q : (List NodeA) × NodeA) (r : (List NodeA)), self18 q = some r → Cn Tryz.prog 18 [.d (slD NodeA.enc q.1), aggV q.2.enc] (.d (slD NodeA.enc r))) (p0 : List NodeA) (p1 : NodeA) (r : (List NodeA)) (h : r10_heads_body K self18 p0 p1 = some r) : Cn Tryz.prog 18 [.d (slD NodeA.enc p0), aggV p1.enc] (.d (slD NodeA.enc r)) := by
 refine Cn.oz Tryz.func18 Tryz.call18 Tryz.ntmps18 Tryz.results18 fun hfit => ?_
 unfold r10_heads_body at h
 refine AW.kr [] [0, 1] ?_
 refine AW.ks [0] [0, 3] ?_
 refine AW.jn h (fun v1_0 => [(0, vL NodeA.enc v1_0), (3, .ptr 0 6 0 0)]) (fun v1_0 => [vE p1.enc]) (fun oJ2 h => ?_) fun v1_0 h => ?_
 ·refine AW.ro ?_
  refine cm h r10_Symbol_ok fun r3 hx4 h => ?_
  refine AW.ks [0] [0, 3, 7] ?_
  refine AW.tk h (fun hb5 h => ?_) fun hb5 h => ?_
  ·refine AW.rp ?_
   refine cm h r10_Head_ok fun r6 hx7 h => ?_
   refine cm h r10_put_ok fun r8 hx9 h => ?_
   exact ja [0] h
  exact ja [0] h
 refine AW.one ?_
 refine AW.ro ?_
 refine AW.ks [0] [0, 3, 5] ?_
 refine AW.lm h (fun e11_0 => [(0, vL NodeA.enc e11_0)]) (fun e11_0 => []) (fun (i10_0, i10_1) => [(0, vL NodeA.enc i10_0), (3, .ptr 0 6 0 0), (5, vI i10_1)]) (fun (i10_0, i10_1) => [vE p1.enc]) [0] (fun oJ13 again ⟨i10_0, i10_1⟩ h => ?_) fun e11_0 h => ?_
 ·try dsimp only at h
  refine AW.one ?_
  refine AW.ro ?_
  refine AW.ks [0] [0, 3, 5, 16] ?_
  refine AW.tt h (fun hb14 h => ?_) fun hb14 h => ?_
  ·refine AW.sk ?_
   refine AW.ks [0] [0, 3, 5] ?_
   refine AW.one ?_
   refine AW.block ?_
   refine AW.rp ?_
   refine bx h fun x15 h0 h1 h => ?_
   refine cm h (hself18 _ _) fun r17 hx18 h => ?_
   refine AW.ks [0] [0, 3, 5] ?_
   refine AW.rp ?_
   exact na [0] h
  refine AW.ex ?_
  exact ja [] h
 refine AW.kr [] [0] ?_
 refine AW.ret ?_
 cases h; refine nz ?_; exact .same _
def r10_heads (K : Nat) (p0 : List NodeA) (p1 : NodeA) : Option (List NodeA) := iter K (fun self q => r10_heads_body K self q.1 q.2) (p0, p1)
theorem key_r10_heads {K : Nat} (k : Nat) : (∀ (q : (List NodeA) × NodeA) (r : (List NodeA)), iter k (fun self q => r10_heads_body K self q.1 q.2) q = some r → Cn Tryz.prog 18 [.d (slD NodeA.enc q.1), aggV q.2.enc] (.d (slD NodeA.enc r))) := by
 induction k with
 | zero => exact fun q r h => by cases h
 | succ k ih => exact fun q r h => r10_heads_step K _ ih q.1 q.2 r h
theorem r10_heads_ok {K : Nat} {p0 : List NodeA} {p1 : NodeA} {r : (List NodeA)} (h : r10_heads K p0 p1 = some r) : Cn Tryz.prog 18 [.d (slD NodeA.enc p0), aggV p1.enc] (.d (slD NodeA.enc r)) := (key_r10_heads K) (p0, p1) r h
/-! ### isochrone/isochroneref10.Symbols -/
def r10_Symbols (K : Nat) (p0 : NodeA) : Option ((List NodeA) × Int) := (r10_check K p0).bind fun r1 =>
 if (r1 != (0 : Int)) then
  some ([], r1)
 else
  (r10_heads K [] p0).bind fun r4 =>
  some (r4, (0 : Int))
set_option maxHeartbeats 4000000 in
theorem r10_Symbols_ok {K : Nat} {p0 : NodeA} {r : (List NodeA) × Int} (h : r10_Symbols K p0 = some r) : Cn Tryz.prog 9 [aggV p0.enc] (.tup [.d (slD NodeA.enc r.1), .d (.val (.int .i64 r.2))]) := by
 refine Cn.oz Tryz.func9 Tryz.call9 Tryz.ntmps9 Tryz.results9 fun hfit => ?_
 unfold r10_Symbols at h
 refine AW.kr [] [0] ?_
 refine AW.ks [0] [1] ?_
 refine AW.one ?_
 refine AW.ro ?_
 refine cm h r10_check_ok fun r1 hx2 h => ?_
 refine AW.kr [0] [1, 4] ?_
 refine AW.ks [0] [1, 4, 8] ?_
 refine AW.tk h (fun hb3 h => ?_) fun hb3 h => ?_
 ·refine AW.ro ?_
  refine AW.ret ?_
  cases h; refine nz ?_; exact .tupL ⟨.nil, .same _, trivial⟩
 refine AW.kr [0] [1] ?_
 refine cv h r10_heads_ok (fun r4 hx5 h => ?_) (hs := by exact ⟨.nil, .same _, trivial⟩)
 refine AW.ret ?_
 cases h; refine nz ?_; exact .same _
/-! ### isochrone/isochroneref10.Occurs -/
def r10_Occurs_body (K : Nat) (self39 : (NodeA × Int) → Option Bool) (p0 : NodeA) (p1 : Int) : Option Bool := if (p0.op == p1) then
  some true
 else
  ((iter (S := Int) (R := Out Unit _) K (fun again i2_0 =>
   if (decide (i2_0 < (p0.kids.length : Int))) then
    (idx p0.kids i2_0).bind fun x7 =>
    (self39 (x7, p1)).bind fun r9 =>
    if r9 then
     outM (
      some true)
    else
     again (IntKind.wrap .i64 (i2_0 + (1 : Int)))
   else
    some (.go ())) (0 : Int)) : Option (Out Unit _)).bind (Out.fin fun _ =>
  some false)
set_option maxHeartbeats 4000000 in
theorem r10_Occurs_step (K : Nat) (self39 : (NodeA × Int) → Option Bool) (hself39 : ∀ (q : NodeA × Int) (r : Bool), self39 q = some r → Cn Tryz.prog 39 [aggV q.1.enc, .d (.val (.int .i64 q.2))] (.d (.val (.bool r)))) (p0 : NodeA) (p1 : Int) (r : Bool) (h : r10_Occurs_body K self39 p0 p1 = some r) : Cn Tryz.prog 39 [aggV p0.enc, .d (.val (.int .i64 p1))] (.d (.val (.bool r))) := by
 refine Cn.oz Tryz.func39 Tryz.call39 Tryz.ntmps39 Tryz.results39 fun hfit => ?_
 unfold r10_Occurs_body at h
 refine AW.kr [] [0, 1] ?_
 refine AW.ks [0] [1, 2] ?_
 refine AW.one ?_
 refine AW.ro ?_
 refine AW.ks [0] [1, 2, 9] ?_
 refine AW.tk h (fun hb1 h => ?_) fun hb1 h => ?_
 ·refine AW.ro ?_
  refine AW.ret ?_
  cases h; refine nz ?_; exact .same _
 refine AW.ks [0] [1, 2] ?_
 refine AW.one ?_
 refine AW.ro ?_
 refine AW.ks [0] [1, 2, 5] ?_
 refine AW.lp h (fun _ => []) (fun _ => []) (fun i2_0 => [(1, vI p1), (2, .ptr 0 6 0 0), (5, vI i2_0)]) (fun i2_0 => [vE p0.enc]) [0] (fun oJ5 hJ5 again i2_0 h => ?_) fun ⟨⟩ h => ?_
 ·refine AW.one ?_
  refine AW.ro ?_
  refine AW.ks [0] [1, 2, 5, 14] ?_
  refine AW.tt h (fun hb6 h => ?_) fun hb6 h => ?_
  ·refine AW.sk ?_
   refine AW.ks [0] [1, 2, 5] ?_
   refine AW.one ?_
   refine AW.block ?_
   refine AW.ro ?_
   refine bx h fun x7 h0 h1 h => ?_
   refine cm h (hself39 _ _) fun r9 hx10 h => ?_
   refine AW.ks [0] [1, 2, 5, 23] ?_
   refine AW.tk h (fun hb11 h => ?_) fun hb11 h => ?_
   ·refine AW.ro ?_
    refine AW.ret ?_
    have h := up h hJ5
    cases h; refine nz ?_; exact .same _
   refine AW.ks [0] [1, 2, 5] ?_
   refine AW.rp ?_
   exact na [0] h
  refine AW.ex ?_
  exact jo [] h
 refine AW.kr [] [] ?_
 refine AW.ret ?_
 cases h; refine nz ?_; exact .same _
def r10_Occurs (K : Nat) (p0 : NodeA) (p1 : Int) : Option Bool := iter K (fun self q => r10_Occurs_body K self q.1 q.2) (p0, p1)
theorem key_r10_Occurs {K : Nat} (k : Nat) : (∀ (q : NodeA × Int) (r : Bool), iter k (fun self q => r10_Occurs_body K self q.1 q.2) q = some r → Cn Tryz.prog 39 [aggV q.1.enc, .d (.val (.int .i64 q.2))] (.d (.val (.bool r)))) := by
 induction k with
 | zero => exact fun q r h => by cases h
 | succ k ih => exact fun q r h => r10_Occurs_step K _ ih q.1 q.2 r h
theorem r10_Occurs_ok {K : Nat} {p0 : NodeA} {p1 : Int} {r : Bool} (h : r10_Occurs K p0 p1 = some r) : Cn Tryz.prog 39 [aggV p0.enc, .d (.val (.int .i64 p1))] (.d (.val (.bool r))) := (key_r10_Occurs K) (p0, p1) r h
/-! ### isochrone/isochroneref11.IsSymbol -/
def r11_IsSymbol (K : Nat) (p0 : NodeA) : Option Bool := ((
  ((
   (r10_Symbol K p0).bind fun r5 =>
   if (!r5) then
    some true
   else
    (r08_Name K p0.name).bind fun r8 =>
    if (!r8) then
     some true
    else
     if p0.num.neg then
      some true
     else
      if (decide ((0 : Int) < (p0.num.num.length : Int))) then
       some true
      else
       some (decide ((0 : Int) < (p0.num.den.length : Int)))) : Option Bool).bind (fun v3_0 =>
  if v3_0 then
   outM (
    some false)
  else
   some (.go ()))) : Option (Out Unit _)).bind (Out.fin fun _ =>
 if ((p0.kids.length : Int) == (0 : Int)) then
  some true
 else
  (idx p0.kids (0 : Int)).bind fun x15 =>
  if ((p0.kids.length : Int) == (1 : Int)) then
   if (p0.op == (10 : Int)) then
    (r08_Equal K x15 (NodeA.mk (13 : Int) (⟨#[]⟩ : ByteArray) (RatA.mk false [] []) [])).bind fun r19 =>
    some r19
   else
    if (p0.op == (37 : Int)) then
     (r08_Equal K x15 (NodeA.mk (13 : Int) (⟨#[]⟩ : ByteArray) (RatA.mk false [] []) [])).bind fun r22 =>
     some r22
    else
     some false
  else
   some false)
set_option maxHeartbeats 4000000 in
theorem r11_IsSymbol_ok {K : Nat} {p0 : NodeA} {r : Bool} (h : r11_IsSymbol K p0 = some r) : Cn Tryz.prog 36 [aggV p0.enc] (.d (.val (.bool r))) := by
 refine Cn.oz Tryz.func36 Tryz.call36 Tryz.ntmps36 Tryz.results36 fun hfit => ?_
 unfold r11_IsSymbol at h
 refine AW.kr [] [0] ?_
 refine AW.ks [0] [1] ?_
 refine AW.jo h (fun _ => [(1, .ptr 0 6 0 0)]) (fun _ => [vE p0.enc]) (fun oJ2 h hJ2 => ?_) fun ⟨⟩ h => ?_
 ·refine AW.jn h (fun v3_0 => [(1, .ptr 0 6 0 0), (31, vB v3_0)]) (fun v3_0 => [vE p0.enc]) (fun oJ4 h => ?_) fun v3_0 h => ?_
  ·refine AW.rp ?_
   refine cm h r10_Symbol_ok fun r5 hx6 h => ?_
   refine sK h (fun hb7 h => ?_) fun hb7 h => ?_
   ·exact ja [0] h
   refine cm h r08_Name_ok fun r8 hx9 h => ?_
   refine sK h (fun hb10 h => ?_) fun hb10 h => ?_
   ·exact ja [0] h
   refine sK h (fun hb11 h => ?_) fun hb11 h => ?_
   ·exact ja [0] h
   refine sK h (fun hb12 h => ?_) fun hb12 h => ?_
   ·exact ja [0] h
   exact ja [0] h
  refine AW.tk h (fun hb13 h => ?_) fun hb13 h => ?_
  ·refine AW.ro ?_
   refine AW.ret ?_
   have h := up h hJ2
   cases h; refine nz ?_; exact .same _
  exact jo [0] h
 refine AW.one ?_
 refine AW.ro ?_
 refine AW.ks [0] [1, 35] ?_
 refine AW.tk h (fun hb14 h => ?_) fun hb14 h => ?_
 ·refine AW.ro ?_
  refine AW.ret ?_
  cases h; refine nz ?_; exact .same _
 refine AW.kr [0] [1] ?_
 refine bx h fun x15 h0 h1 h => ?_
 refine AW.kr [0, 5] [1, 3] ?_
 refine sK h (fun hb17 h => ?_) fun hb17 h => ?_
 ·refine sK h (fun hb18 h => ?_) fun hb18 h => ?_
  ·refine cv h r08_Equal_ok (fun r19 hx20 h => ?_) (hs := by exact ⟨.same _, .aggL ⟨.same _, .same _, .same _, .nil, .nil, .nil, trivial⟩, trivial⟩)
   refine AW.ret ?_
   cases h; refine nz ?_; exact .same _
  refine sK h (fun hb21 h => ?_) fun hb21 h => ?_
  ·refine cv h r08_Equal_ok (fun r22 hx23 h => ?_) (hs := by exact ⟨.same _, .aggL ⟨.same _, .same _, .same _, .nil, .nil, .nil, trivial⟩, trivial⟩)
   refine AW.ret ?_
   cases h; refine nz ?_; exact .same _
  refine AW.ret ?_
  cases h; refine nz ?_; exact .same _
 refine AW.ret ?_
 cases h; refine nz ?_; exact .same _
/-! ### isochrone/isochroneref17.none -/
def r17_none (K : Nat) (p0 : NodeA) : Option Bool := (r08_Equal K p0 (NodeA.mk (0 : Int) (⟨#[]⟩ : ByteArray) (RatA.mk false [] []) [])).bind fun r1 =>
 some r1
set_option maxHeartbeats 4000000 in
theorem r17_none_ok {K : Nat} {p0 : NodeA} {r : Bool} (h : r17_none K p0 = some r) : Cn Tryz.prog 37 [aggV p0.enc] (.d (.val (.bool r))) := by
 refine Cn.oz Tryz.func37 Tryz.call37 Tryz.ntmps37 Tryz.results37 fun hfit => ?_
 unfold r17_none at h
 refine AW.kr [] [0] ?_
 refine AW.kr [0] [1] ?_
 refine cv h r08_Equal_ok (fun r1 hx2 h => ?_) (hs := by exact ⟨.same _, .aggL ⟨.same _, .same _, .same _, .nil, .nil, .nil, trivial⟩, trivial⟩)
 refine AW.ret ?_
 cases h; refine nz ?_; exact .same _
/-! ### isochrone/isochroneref17.flow -/
def r17_flow (K : Nat) (p0 : List NodeA) : Option NodeA := (makO 104 (p0.length : Int) (NodeA.mk (0 : Int) (⟨#[]⟩ : ByteArray) (RatA.mk false [] []) [])).bind fun l1 =>
 (copyO l1 p0).bind fun l3 =>
 (appO 104 l3 [(NodeA.mk (20 : Int) (⟨#[]⟩ : ByteArray) (RatA.mk false [] []) [])]).bind fun l5 =>
 some (NodeA.mk (54 : Int) (⟨#[]⟩ : ByteArray) (RatA.mk false [] []) l5)
set_option maxHeartbeats 4000000 in
theorem r17_flow_ok {K : Nat} {p0 : List NodeA} {r : NodeA} (h : r17_flow K p0 = some r) : Cn Tryz.prog 81 [.d (slD NodeA.enc p0)] (aggV r.enc) := by
 refine Cn.ofA mixed Tryz.func81 rfl Tryz.call81 Tryz.ntmps81 Tryz.results81 (by simp) (by simp only [go_sem, reduceEqDiff, reduceAdd, reduceSub, reduceMul, reduceLeDiff, reduceLT, Nat.reduceBEq, reduceIte]) fun hfit => ?_
 unfold r17_flow at h
 refine AW.kp [] [0] ?_
 refine AW.op mixed ?_
 refine AW.kp [0] [0, 2] ?_
 refine AW.op mixed ?_
 apply obindE h; intro l1 hx2 h
 refine makG (f := NodeA.enc) hx2 (nz ?_) ?_
 ·exact ⟨.same _, .same _, .same _, .nil, .nil, .nil, trivial⟩
 try simp only [go_sem, reduceEqDiff, reduceAdd, reduceSub, reduceMul, reduceLeDiff, reduceLT, Nat.reduceBEq, reduceIte]
 refine AW.cu [0, 3] [(0, .d (slD NodeA.enc p0)), (2, .ptr 0 6 0 0), (3, .msl 1 6 0 (l1.length))] [some ⟨6, [[.d (.val (.int .i64 (0 : Int))), .d (.val (.string (⟨#[]⟩ : ByteArray))), .d (.val (.bool false)), .d (.val (.slice none 0 0)), .d (.val (.slice none 0 0)), .d (.val (.slice none 0 0))]]⟩, some ⟨6, (l1.map NodeA.enc).map (·.map .d)⟩] ?_
 refine AW.op mixed ?_
 apply obindE h; intro l3 hx4 h
 refine copyG (f := NodeA.enc) hx4 (by simp only [go_sem, reduceEqDiff, reduceAdd, reduceSub, reduceMul, reduceLeDiff, reduceLT, Nat.reduceBEq, reduceIte]) (by simp only [go_sem, reduceEqDiff, reduceAdd, reduceSub, reduceMul, reduceLeDiff, reduceLT, Nat.reduceBEq, reduceIte]) (by simp only [go_sem, reduceEqDiff, reduceAdd, reduceSub, reduceMul, reduceLeDiff, reduceLT, Nat.reduceBEq, reduceIte]) ?_
 try simp only [go_sem, reduceEqDiff, reduceAdd, reduceSub, reduceMul, reduceLeDiff, reduceLT, Nat.reduceBEq, reduceIte, copyO_len hx4]
 refine AW.cut [0, 1] [(2, .ptr 0 6 0 0), (3, .msl 1 6 0 (l3.length))] [some ⟨6, [[.d (.val (.int .i64 (0 : Int))), .d (.val (.string (⟨#[]⟩ : ByteArray))), .d (.val (.bool false)), .d (.val (.slice none 0 0)), .d (.val (.slice none 0 0)), .d (.val (.slice none 0 0))]]⟩, some ⟨6, (l3.map NodeA.enc).map (·.map .d)⟩] (by simp only [go_sem, reduceEqDiff, reduceAdd, reduceSub, reduceMul, reduceLeDiff, reduceLT, Nat.reduceBEq, reduceIte, copyO_len hx4]) ?_
 refine AW.op mixed ?_
 apply obindE h; intro l5 hx6 h
 refine appNil (b := .sl [[.val (.int .i64 (20 : Int)), .val (.string (⟨#[]⟩ : ByteArray)), .val (.bool false), slD u32V [], slD u32V [], slD NodeA.enc []]]) (.rows (by (try simp only [slD, NodeA.enc_eta, RatA.enc_eta, NodeA.op_mk, NodeA.name_mk, NodeA.num_mk, NodeA.kids_mk, aggV, i64V, u32V, strV, List.map_cons, List.map_nil]); exact ⟨⟨.refl _, .refl _, .refl _, .nil _ _, .nil _ _, .nil _ _, trivial⟩, trivial⟩)) ?_
 refine appR (f := NodeA.enc) hx6 rfl (by simp only [go_sem, reduceEqDiff, reduceAdd, reduceSub, reduceMul, reduceLeDiff, reduceLT, Nat.reduceBEq, reduceIte]) (by simp only [go_sem, reduceEqDiff, reduceAdd, reduceSub, reduceMul, reduceLeDiff, reduceLT, Nat.reduceBEq, reduceIte]) (by simp only [go_sem, reduceEqDiff, reduceAdd, reduceSub, reduceMul, reduceLeDiff, reduceLT, Nat.reduceBEq, reduceIte]) ?_
 try simp only [go_sem, reduceEqDiff, reduceAdd, reduceSub, reduceMul, reduceLeDiff, reduceLT, Nat.reduceBEq, reduceIte]
 refine AW.ret ?_
 obtain rfl := Option.some.inj h
 refine nz ?_
 exact .aggL ⟨.same _, .same _, .same _, .nil, .nil, sealArr (by simp only [go_sem, reduceEqDiff, reduceAdd, reduceSub, reduceMul, reduceLeDiff, reduceLT, Nat.reduceBEq, reduceIte]), trivial⟩
/-! ### isochrone/isochroneref17.rates -/
def r17_rates (K : Nat) (p0 : List NodeA) : Option Bool := ((iter (S := Int × Int) (R := Out Int _) K (fun again (i1_0, i1_1) =>
  if (decide (i1_1 < (p0.length : Int))) then
   ((
    ((
     (idx p0 i1_1).bind fun x10 =>
     if (x10.op == (55 : Int)) then
      some (IntKind.wrap .i64 (i1_0 + (1 : Int)))
     else
      some i1_0) : Option Int).bind (fun v8_0 =>
    (idx p0 i1_1).bind fun x13 =>
    (r10_Occurs K x13 (13 : Int)).bind fun r15 =>
    if r15 then
     outM (
      outM (
       some false))
    else
     some (.go v8_0))) : Option (Out Int _)).bind (Out.fin fun v6_0 =>
   again (v6_0, IntKind.wrap .i64 (i1_1 + (1 : Int))))
  else
   some (.go i1_0)) ((0 : Int), (0 : Int))) : Option (Out Int _)).bind (Out.fin fun e2_0 =>
 if (decide (e2_0 ≤ (8 : Int))) then
  if ((p0.length : Int) == (0 : Int)) then
   some true
  else
   (r17_flow K p0).bind fun r20 =>
   (r08_Check K r20 (3 : Int)).bind fun r22 =>
   some (r22 == (0 : Int))
 else
  some false)
set_option maxHeartbeats 4000000 in
theorem r17_rates_ok {K : Nat} {p0 : List NodeA} {r : Bool} (h : r17_rates K p0 = some r) : Cn Tryz.prog 38 [.d (slD NodeA.enc p0)] (.d (.val (.bool r))) := by
 refine Cn.oz Tryz.func38 Tryz.call38 Tryz.ntmps38 Tryz.results38 fun hfit => ?_
 unfold r17_rates at h
 refine AW.kr [] [0] ?_
 refine AW.kr [] [0] ?_
 refine AW.ks [] [0, 3] ?_
 refine AW.one ?_
 refine AW.ro ?_
 refine AW.ks [] [0, 3, 4] ?_
 refine AW.lp h (fun e2_0 => [(0, vL NodeA.enc p0), (3, vI e2_0)]) (fun e2_0 => []) (fun (i1_0, i1_1) => [(0, vL NodeA.enc p0), (3, vI i1_0), (4, vI i1_1)]) (fun (i1_0, i1_1) => []) [] (fun oJ4 hJ4 again ⟨i1_0, i1_1⟩ h => ?_) fun e2_0 h => ?_
 ·try dsimp only at h
  refine AW.one ?_
  refine AW.ro ?_
  refine AW.ks [] [0, 3, 4, 8] ?_
  refine AW.tt h (fun hb5 h => ?_) fun hb5 h => ?_
  ·refine AW.sk ?_
   refine AW.ks [] [0, 3, 4] ?_
   refine AW.jo h (fun v6_0 => [(0, vL NodeA.enc p0), (3, vI v6_0), (4, vI i1_1)]) (fun v6_0 => []) (fun oJ7 h hJ7 => ?_) fun v6_0 h => ?_
   ·refine AW.block ?_
    refine AW.jn h (fun v8_0 => [(0, vL NodeA.enc p0), (3, vI v8_0), (4, vI i1_1)]) (fun v8_0 => []) (fun oJ9 h => ?_) fun v8_0 h => ?_
    ·refine AW.ro ?_
     refine bx h fun x10 h0 h1 h => ?_
     refine AW.ks [] [0, 3, 4, 16] ?_
     refine AW.tk h (fun hb12 h => ?_) fun hb12 h => ?_
     ·refine AW.rp ?_
      exact ja [] h
     exact ja [] h
    refine AW.ro ?_
    refine bx h fun x13 h0 h1 h => ?_
    refine cm h r10_Occurs_ok fun r15 hx16 h => ?_
    refine AW.ks [] [0, 3, 4, 23] ?_
    refine AW.tk h (fun hb17 h => ?_) fun hb17 h => ?_
    ·refine AW.ro ?_
     refine AW.ret ?_
     have h := up h hJ7
     have h := up h hJ4
     cases h; refine nz ?_; exact .same _
    exact jo [] h
   refine AW.rp ?_
   exact na [] h
  refine AW.ex ?_
  exact jo [] h
 refine AW.kr [] [0, 3] ?_
 refine sK h (fun hb18 h => ?_) fun hb18 h => ?_
 ·refine sK h (fun hb19 h => ?_) fun hb19 h => ?_
  ·refine AW.ret ?_
   cases h; refine nz ?_; exact .same _
  refine cm h r17_flow_ok fun r20 hx21 h => ?_
  refine cm h r08_Check_ok fun r22 hx23 h => ?_
  refine AW.ret ?_
  cases h; refine nz ?_; exact .same _
 refine AW.ret ?_
 cases h; refine nz ?_; exact .same _
/-! ### isochrone/isochroneref17.fits -/
def r17_fits (K : Nat) (p0 : Api_PairA) : Option Bool := (r11_IsSymbol K p0.what).bind fun r1 =>
 if (!r1) then
  some false
 else
  if (p0.what.op == (56 : Int)) then
   (r17_none K p0.with_).bind fun r5 =>
   if r5 then
    (r17_rates K p0.rates).bind fun r8 =>
    some r8
   else
    some false
  else
   ((
    ((
     if (decide ((0 : Int) < (p0.rates.length : Int))) then
      some true
     else
      if ((p0.what.kids.length : Int) == (0 : Int)) then
       (r10_Occurs K p0.with_ (13 : Int)).bind fun r16 =>
       some r16
      else
       some false) : Option Bool).bind (fun v12_0 =>
    if v12_0 then
     outM (
      some false)
    else
     some (.go ()))) : Option (Out Unit _)).bind (Out.fin fun _ =>
   ((
    ((
     if (p0.what.op == (10 : Int)) then
      some (p0.what.op == (10 : Int))
     else
      some (p0.what.op == (11 : Int))) : Option Bool).bind (fun v21_0 =>
    if v21_0 then
     (r08_Check K p0.with_ (1 : Int)).bind fun r25 =>
     outM (
      some (r25 == (0 : Int)))
    else
     ((
      if (p0.what.op == (37 : Int)) then
       some (p0.what.op == (37 : Int))
      else
       some (p0.what.op == (38 : Int))) : Option Bool).bind (fun v27_0 =>
     if v27_0 then
      (r08_Check K p0.with_ (2 : Int)).bind fun r31 =>
      outM (
       some (r31 == (0 : Int)))
     else
      if (p0.what.op == (61 : Int)) then
       (r08_Check K p0.with_ (3 : Int)).bind fun r34 =>
       if (r34 == (0 : Int)) then
        (r10_Occurs K p0.with_ (60 : Int)).bind fun r37 =>
        if (!r37) then
         (r10_Occurs K p0.with_ (62 : Int)).bind fun r40 =>
         outM (
          some (!r40))
        else
         outM (
          some false)
       else
        outM (
         some false)
      else
       some (.go ())))) : Option (Out Unit _)).bind (Out.fin fun _ =>
   (r08_Check K p0.with_ (3 : Int)).bind fun r42 =>
   some (r42 == (0 : Int))))
set_option maxHeartbeats 4000000 in
theorem r17_fits_ok {K : Nat} {p0 : Api_PairA} {r : Bool} (h : r17_fits K p0 = some r) : Cn Tryz.prog 16 [aggV p0.enc] (.d (.val (.bool r))) := by
 refine Cn.oz Tryz.func16 Tryz.call16 Tryz.ntmps16 Tryz.results16 fun hfit => ?_
 unfold r17_fits at h
 refine AW.kr [] [0] ?_
 refine AW.ks [0] [1] ?_
 refine AW.one ?_
 refine AW.ro ?_
 refine cm h r11_IsSymbol_ok fun r1 hx2 h => ?_
 refine AW.ks [0] [1, 6] ?_
 refine AW.tk h (fun hb3 h => ?_) fun hb3 h => ?_
 ·refine AW.ro ?_
  refine AW.ret ?_
  cases h; refine nz ?_; exact .same _
 refine AW.ks [0] [1] ?_
 refine AW.one ?_
 refine AW.ro ?_
 refine AW.ks [0] [1, 10] ?_
 refine AW.tk h (fun hb4 h => ?_) fun hb4 h => ?_
 ·refine AW.ro ?_
  refine cm h r17_none_ok fun r5 hx6 h => ?_
  refine sK h (fun hb7 h => ?_) fun hb7 h => ?_
  ·refine cm h r17_rates_ok fun r8 hx9 h => ?_
   refine AW.ret ?_
   cases h; refine nz ?_; exact .same _
  refine AW.ret ?_
  cases h; refine nz ?_; exact .same _
 refine AW.ks [0] [1] ?_
 refine AW.jo h (fun _ => [(1, .ptr 0 13 0 0)]) (fun _ => [vE p0.enc]) (fun oJ11 h hJ11 => ?_) fun ⟨⟩ h => ?_
 ·refine AW.jn h (fun v12_0 => [(1, .ptr 0 13 0 0), (34, vB v12_0)]) (fun v12_0 => [vE p0.enc]) (fun oJ13 h => ?_) fun v12_0 h => ?_
  ·refine AW.rp ?_
   refine sK h (fun hb14 h => ?_) fun hb14 h => ?_
   ·exact ja [0] h
   refine sK h (fun hb15 h => ?_) fun hb15 h => ?_
   ·refine cm h r10_Occurs_ok fun r16 hx17 h => ?_
    exact ja [0] h
   exact ja [0] h
  refine AW.tk h (fun hb18 h => ?_) fun hb18 h => ?_
  ·refine AW.ro ?_
   refine AW.ret ?_
   have h := up h hJ11
   cases h; refine nz ?_; exact .same _
  exact jo [0] h
 refine AW.jo h (fun _ => [(1, .ptr 0 13 0 0)]) (fun _ => [vE p0.enc]) (fun oJ20 h hJ20 => ?_) fun ⟨⟩ h => ?_
 ·refine AW.ro ?_
  refine AW.ks [0] [1, 37] ?_
  refine AW.block ?_
  refine AW.jn h (fun v21_0 => [(1, .ptr 0 13 0 0), (37, vI p0.what.op), (38, vB v21_0)]) (fun v21_0 => [vE p0.enc]) (fun oJ22 h => ?_) fun v21_0 h => ?_
  ·refine AW.ro ?_
   refine AW.ks [0] [1, 37, 38] ?_
   refine AW.tt h (fun hb23 h => ?_) fun hb23 h => ?_
   ·refine AW.sk ?_
    exact ja [0] h
   refine AW.rp ?_
   exact ja [0] h
  refine AW.tt h (fun hb24 h => ?_) fun hb24 h => ?_
  ·refine AW.ro ?_
   refine cm h r08_Check_ok fun r25 hx26 h => ?_
   refine AW.ret ?_
   have h := up h hJ20
   cases h; refine nz ?_; exact .same _
  refine AW.jn h (fun v27_0 => [(1, .ptr 0 13 0 0), (37, vI p0.what.op), (45, vB v27_0)]) (fun v27_0 => [vE p0.enc]) (fun oJ28 h => ?_) fun v27_0 h => ?_
  ·refine AW.ro ?_
   refine AW.ks [0] [1, 37, 45] ?_
   refine AW.tt h (fun hb29 h => ?_) fun hb29 h => ?_
   ·refine AW.sk ?_
    exact ja [0] h
   refine AW.rp ?_
   exact ja [0] h
  refine AW.tt h (fun hb30 h => ?_) fun hb30 h => ?_
  ·refine AW.ro ?_
   refine cm h r08_Check_ok fun r31 hx32 h => ?_
   refine AW.ret ?_
   have h := up h hJ20
   cases h; refine nz ?_; exact .same _
  refine AW.ro ?_
  refine AW.ks [0] [1, 52] ?_
  refine AW.tk h (fun hb33 h => ?_) fun hb33 h => ?_
  ·refine AW.ro ?_
   refine cm h r08_Check_ok fun r34 hx35 h => ?_
   refine sK h (fun hb36 h => ?_) fun hb36 h => ?_
   ·refine cm h r10_Occurs_ok fun r37 hx38 h => ?_
    refine sK h (fun hb39 h => ?_) fun hb39 h => ?_
    ·refine cm h r10_Occurs_ok fun r40 hx41 h => ?_
     refine AW.ret ?_
     have h := up h hJ20
     cases h; refine nz ?_; exact .same _
    refine AW.ret ?_
    have h := up h hJ20
    cases h; refine nz ?_; exact .same _
   refine AW.ret ?_
   have h := up h hJ20
   cases h; refine nz ?_; exact .same _
  exact jo [0] h
 refine AW.ro ?_
 refine cm h r08_Check_ok fun r42 hx43 h => ?_
 refine AW.ret ?_
 cases h; refine nz ?_; exact .same _
/-! ### isochrone/isochroneref17.Check -/
def r17_Check (K : Nat) (p0 : List Api_PairA) : Option Int := if (decide ((40 : Int) < (p0.length : Int))) then
  some (2 : Int)
 else
  ((iter (S := Int) (R := Out Unit _) K (fun again i2_0 =>
   if (decide (i2_0 < (p0.length : Int))) then
    (idx p0 i2_0).bind fun x7 =>
    (r17_fits K x7).bind fun r9 =>
    if (!r9) then
     outM (
      some (3 : Int))
    else
     ((iter (S := Int) (R := Out Unit _) K (fun again i12_0 =>
      if (decide (i12_0 < i2_0)) then
       (idx p0 i12_0).bind fun x17 =>
       (r08_Equal K x7.what x17.what).bind fun r19 =>
       if r19 then
        outM (
         outM (
          some (3 : Int)))
       else
        again (IntKind.wrap .i64 (i12_0 + (1 : Int)))
      else
       some (.go ())) (0 : Int)) : Option (Out Unit _)).bind (Out.fin fun _ =>
     again (IntKind.wrap .i64 (i2_0 + (1 : Int))))
   else
    some (.go ())) (0 : Int)) : Option (Out Unit _)).bind (Out.fin fun _ =>
  some (0 : Int))
set_option maxHeartbeats 4000000 in
theorem r17_Check_ok {K : Nat} {p0 : List Api_PairA} {r : Int} (h : r17_Check K p0 = some r) : Cn Tryz.prog 8 [.d (slD Api_PairA.enc p0)] (.d (.val (.int .i64 r))) := by
 refine Cn.oz Tryz.func8 Tryz.call8 Tryz.ntmps8 Tryz.results8 fun hfit => ?_
 unfold r17_Check at h
 refine AW.kr [] [0] ?_
 refine AW.ks [] [0] ?_
 refine AW.one ?_
 refine AW.ro ?_
 refine AW.ks [] [0, 7] ?_
 refine AW.tk h (fun hb1 h => ?_) fun hb1 h => ?_
 ·refine AW.ro ?_
  refine AW.ret ?_
  cases h; refine nz ?_; exact .same _
 refine AW.ks [] [0] ?_
 refine AW.one ?_
 refine AW.ro ?_
 refine AW.ks [] [0, 3] ?_
 refine AW.lp h (fun _ => []) (fun _ => []) (fun i2_0 => [(0, vL Api_PairA.enc p0), (3, vI i2_0)]) (fun i2_0 => []) [] (fun oJ5 hJ5 again i2_0 h => ?_) fun ⟨⟩ h => ?_
 ·refine AW.one ?_
  refine AW.ro ?_
  refine AW.ks [] [0, 3, 11] ?_
  refine AW.tt h (fun hb6 h => ?_) fun hb6 h => ?_
  ·refine AW.sk ?_
   refine AW.ks [] [0, 3] ?_
   refine AW.one ?_
   refine AW.block ?_
   refine AW.one ?_
   refine AW.ro ?_
   refine bx h fun x7 h0 h1 h => ?_
   refine cm h r17_fits_ok fun r9 hx10 h => ?_
   refine AW.ks [] [0, 3, 19] ?_
   refine AW.tk h (fun hb11 h => ?_) fun hb11 h => ?_
   ·refine AW.ro ?_
    refine AW.ret ?_
    have h := up h hJ5
    cases h; refine nz ?_; exact .same _
   refine AW.kr [] [0, 3] ?_
   refine AW.ks [] [0, 3, 4] ?_
   refine AW.lp h (fun _ => [(0, vL Api_PairA.enc p0), (3, vI i2_0)]) (fun _ => []) (fun i12_0 => [(0, vL Api_PairA.enc p0), (3, vI i2_0), (4, vI i12_0)]) (fun i12_0 => []) [] (fun oJ15 hJ15 again i12_0 h => ?_) fun ⟨⟩ h => ?_
   ·refine AW.one ?_
    refine AW.ro ?_
    refine AW.ks [] [0, 3, 4, 22] ?_
    refine AW.tt h (fun hb16 h => ?_) fun hb16 h => ?_
    ·refine AW.sk ?_
     refine AW.ks [] [0, 3, 4] ?_
     refine AW.one ?_
     refine AW.block ?_
     refine AW.ro ?_
     refine bx h fun x17 h0 h1 h => ?_
     refine pm h r08_Equal_ok fun r19 hx20 h => ?_
     refine AW.ks [] [0, 3, 4, 35] ?_
     refine AW.tk h (fun hb21 h => ?_) fun hb21 h => ?_
     ·refine AW.ro ?_
      refine AW.ret ?_
      have h := up h hJ15
      have h := up h hJ5
      cases h; refine nz ?_; exact .same _
     refine AW.ks [] [0, 3, 4] ?_
     refine AW.rp ?_
     exact na [] h
    refine AW.ex ?_
    exact jo [] h
   refine AW.ks [] [0, 3] ?_
   refine AW.rp ?_
   exact na [] h
  refine AW.ex ?_
  exact jo [] h
 refine AW.kr [] [] ?_
 refine AW.ret ?_
 cases h; refine nz ?_; exact .same _
/-! ### isochrone/isochronelaw17.SubstKeeps -/
def law17_SubstKeeps (K : Nat) (p0 : NodeA) (p1 : List Api_PairA) : Option Bool := (law17_awake K ).bind fun r1 =>
 if (!r1) then
  some false
 else
  ((
   ((
    (r08_Size K p0).bind fun r8 =>
    if (decide ((600 : Int) < r8)) then
     some true
    else
     (law17_light K p1).bind fun r11 =>
     if (!r11) then
      some true
     else
      (r17_Check K p1).bind fun r14 =>
      some (r14 != (0 : Int))) : Option Bool).bind (fun v6_0 =>
   if v6_0 then
    outM (
     some true)
   else
    some (.go ()))) : Option (Out Unit _)).bind (Out.fin fun _ =>
  (r10_Symbols K p0).bind fun r17 =>
  if (r17.2 != (0 : Int)) then
   some true
  else
   ((iter (S := Int) (R := Out Unit _) K (fun again i20_0 =>
    if (decide (i20_0 < (p1.length : Int))) then
     ((iter (S := Int) (R := Out Unit _) K (fun again i25_0 =>
      if (decide (i25_0 < (r17.1.length : Int))) then
       (idx p1 i20_0).bind fun x30 =>
       (idx r17.1 i25_0).bind fun x32 =>
       (r08_Equal K x30.what x32).bind fun r34 =>
       if r34 then
        outM (
         outM (
          some true))
       else
        again (IntKind.wrap .i64 (i25_0 + (1 : Int)))
      else
       some (.go ())) (0 : Int)) : Option (Out Unit _)).bind (Out.fin fun _ =>
     again (IntKind.wrap .i64 (i20_0 + (1 : Int))))
    else
     some (.go ())) (0 : Int)) : Option (Out Unit _)).bind (Out.fin fun _ =>
   (subst_Apply K p0 p1).bind fun r37 =>
   (subst_Apply K p0 []).bind fun r39 =>
   if (r37.2.2 == (0 : Int)) then
    if (r39.2.2 == (0 : Int)) then
     (r08_Equal K r37.1 p0).bind fun r43 =>
     if r43 then
      (r08_Equal K r39.1 p0).bind fun r46 =>
      some r46
     else
      some false
    else
     some false
   else
    some false))
set_option maxHeartbeats 4000000 in
theorem law17_SubstKeeps_ok {K : Nat} {p0 : NodeA} {p1 : List Api_PairA} {r : Bool} (h : law17_SubstKeeps K p0 p1 = some r) : Cn Tryz.prog 3 [aggV p0.enc, .d (slD Api_PairA.enc p1)] (.d (.val (.bool r))) := by
 refine Cn.oz Tryz.func3 Tryz.call3 Tryz.ntmps3 Tryz.results3 fun hfit => ?_
 unfold law17_SubstKeeps at h
 refine AW.kr [] [0, 1] ?_
 refine AW.ks [0] [1, 2] ?_
 refine AW.one ?_
 refine AW.ro ?_
 refine cm h law17_awake_ok fun r1 hx2 h => ?_
 refine AW.ks [0] [1, 2, 15] ?_
 refine AW.tk h (fun hb3 h => ?_) fun hb3 h => ?_
 ·refine AW.ro ?_
  refine AW.ret ?_
  cases h; refine nz ?_; exact .same _
 refine AW.ks [0] [1, 2] ?_
 refine AW.jo h (fun _ => [(1, vL Api_PairA.enc p1), (2, .ptr 0 6 0 0)]) (fun _ => [vE p0.enc]) (fun oJ5 h hJ5 => ?_) fun ⟨⟩ h => ?_
 ·refine AW.jn h (fun v6_0 => [(1, vL Api_PairA.enc p1), (2, .ptr 0 6 0 0), (28, vB v6_0)]) (fun v6_0 => [vE p0.enc]) (fun oJ7 h => ?_) fun v6_0 h => ?_
  ·refine AW.rp ?_
   refine cm h r08_Size_ok fun r8 hx9 h => ?_
   refine sK h (fun hb10 h => ?_) fun hb10 h => ?_
   ·exact ja [0] h
   refine cm h law17_light_ok fun r11 hx12 h => ?_
   refine sK h (fun hb13 h => ?_) fun hb13 h => ?_
   ·exact ja [0] h
   refine cm h r17_Check_ok fun r14 hx15 h => ?_
   exact ja [0] h
  refine AW.tk h (fun hb16 h => ?_) fun hb16 h => ?_
  ·refine AW.ro ?_
   refine AW.ret ?_
   have h := up h hJ5
   cases h; refine nz ?_; exact .same _
  exact jo [0] h
 refine AW.ro ?_
 refine cm h r10_Symbols_ok fun r17 hx18 h => ?_
 refine AW.ks [0] [1, 2, 5, 6] ?_
 refine AW.one ?_
 refine AW.ro ?_
 refine AW.ks [0] [1, 2, 5, 35] ?_
 refine AW.tk h (fun hb19 h => ?_) fun hb19 h => ?_
 ·refine AW.ro ?_
  refine AW.ret ?_
  cases h; refine nz ?_; exact .same _
 refine AW.ks [0] [1, 2, 5] ?_
 refine AW.one ?_
 refine AW.ro ?_
 refine AW.ks [0] [1, 2, 5, 7] ?_
 refine AW.lp h (fun _ => [(1, vL Api_PairA.enc p1), (2, .ptr 0 6 0 0)]) (fun _ => [vE p0.enc]) (fun i20_0 => [(1, vL Api_PairA.enc p1), (2, .ptr 0 6 0 0), (5, vL NodeA.enc r17.1), (7, vI i20_0)]) (fun i20_0 => [vE p0.enc]) [0] (fun oJ23 hJ23 again i20_0 h => ?_) fun ⟨⟩ h => ?_
 ·refine AW.one ?_
  refine AW.ro ?_
  refine AW.ks [0] [1, 2, 5, 7, 39] ?_
  refine AW.tt h (fun hb24 h => ?_) fun hb24 h => ?_
  ·refine AW.sk ?_
   refine AW.ks [0] [1, 2, 5, 7] ?_
   refine AW.one ?_
   refine AW.block ?_
   refine AW.ro ?_
   refine AW.ks [0] [1, 2, 5, 7, 8] ?_
   refine AW.lp h (fun _ => [(1, vL Api_PairA.enc p1), (2, .ptr 0 6 0 0), (5, vL NodeA.enc r17.1), (7, vI i20_0)]) (fun _ => [vE p0.enc]) (fun i25_0 => [(1, vL Api_PairA.enc p1), (2, .ptr 0 6 0 0), (5, vL NodeA.enc r17.1), (7, vI i20_0), (8, vI i25_0)]) (fun i25_0 => [vE p0.enc]) [0] (fun oJ28 hJ28 again i25_0 h => ?_) fun ⟨⟩ h => ?_
   ·refine AW.one ?_
    refine AW.ro ?_
    refine AW.ks [0] [1, 2, 5, 7, 8, 45] ?_
    refine AW.tt h (fun hb29 h => ?_) fun hb29 h => ?_
    ·refine AW.sk ?_
     refine AW.ks [0] [1, 2, 5, 7, 8] ?_
     refine AW.one ?_
     refine AW.block ?_
     refine AW.ro ?_
     refine bx h fun x30 h0 h1 h => ?_
     refine bx h fun x32 h0 h1 h => ?_
     refine pm h r08_Equal_ok fun r34 hx35 h => ?_
     refine AW.ks [0] [1, 2, 5, 7, 8, 57] ?_
     refine AW.tk h (fun hb36 h => ?_) fun hb36 h => ?_
     ·refine AW.ro ?_
      refine AW.ret ?_
      have h := up h hJ28
      have h := up h hJ23
      cases h; refine nz ?_; exact .same _
     refine AW.ks [0] [1, 2, 5, 7, 8] ?_
     refine AW.rp ?_
     exact na [0] h
    refine AW.ex ?_
    exact jo [0] h
   refine AW.ks [0] [1, 2, 5, 7] ?_
   refine AW.rp ?_
   exact na [0] h
  refine AW.ex ?_
  exact jo [0] h
 refine AW.kr [0] [1, 2] ?_
 refine cm h subst_Apply_ok fun r37 hx38 h => ?_
 refine AW.kr [0, 8] [2, 6, 9] ?_
 refine cv h subst_Apply_ok (fun r39 hx40 h => ?_) (hs := by exact ⟨.same _, .nil, trivial⟩)
 refine AW.kr [0, 1, 8] [2, 6, 9, 11, 13] ?_
 refine sK h (fun hb41 h => ?_) fun hb41 h => ?_
 ·refine sK h (fun hb42 h => ?_) fun hb42 h => ?_
  ·refine cm h r08_Equal_ok fun r43 hx44 h => ?_
   refine sK h (fun hb45 h => ?_) fun hb45 h => ?_
   ·refine cm h r08_Equal_ok fun r46 hx47 h => ?_
    refine AW.ret ?_
    cases h; refine nz ?_; exact .same _
   refine AW.ret ?_
   cases h; refine nz ?_; exact .same _
  refine AW.ret ?_
  cases h; refine nz ?_; exact .same _
 refine AW.ret ?_
 cases h; refine nz ?_; exact .same _
end Go.Proofs.YtfnfjjgphhoigaaGreat
