/- Part of the proof of a law: contracts of the functions that the law reaches, or plain laws of them, out of the abstract layer (the texts YtphmckfokdkecaaGreatIso..). No condition. -/
import Derived.Test.YtphmckfokdkecaaGreatW
import Derived.Test.YtphmckfokdkecaaGreatIsoF
import Derived.Test.YtphmckfokdkecaaGreatLman
import Derived.Test.YtphmckfokdkecaaGreatShelf
import Derived.Test.YtphmckfokdkecaaGreatIsoY
open Nat (reduceEqDiff reduceAdd reduceSub reduceMul reduceLeDiff reduceLT)
namespace Go.Proofs.YtphmckfokdkecaaGreat
open Go Go.Iso Go.Proofs
set_option linter.unusedSimpArgs false
set_option linter.unusedVariables false
set_option maxRecDepth 100000
/-! ### isochrone/diff.node -/
def diff_node (K : Nat) (p0 : Int) (p1 : List NodeA) : Option NodeA := some (NodeA.mk p0 (⟨#[]⟩ : ByteArray) (RatA.mk false [] []) p1)
set_option maxHeartbeats 4000000 in
theorem diff_node_ok {K : Nat} {p0 : Int} {p1 : List NodeA} {r : NodeA} (h : diff_node K p0 p1 = some r) : Cn Tryz.prog 50 [.d (.val (.int .i64 p0)), .d (slD NodeA.enc p1)] (aggV r.enc) := by
 refine Cn.oz Tryz.func50 Tryz.call50 Tryz.ntmps50 Tryz.results50 fun hfit => ?_
 unfold diff_node at h
 refine AW.kr [] [0, 1] ?_
 refine AW.kr [0] [0, 1, 4] ?_
 refine AW.ret ?_
 cases h; refine nz ?_; exact .aggL ⟨.same _, .same _, .same _, .nil, .nil, .same _, trivial⟩
/-! ### isochrone/diff.number -/
def diff_number (K : Nat) (p0 : Int) : Option NodeA := ((
  if (decide ((0 : Int) < p0)) then
   some [p0]
  else
   some []) : Option (List Int)).bind (fun v1_0 =>
 some (NodeA.mk (1 : Int) (⟨#[]⟩ : ByteArray) (RatA.mk false v1_0 [(1 : Int)]) []))
set_option maxHeartbeats 4000000 in
theorem diff_number_ok {K : Nat} {p0 : Int} {r : NodeA} (h : diff_number K p0 = some r) : Cn Tryz.prog 36 [.d (.val (.int .u32 p0))] (aggV r.enc) := by
 refine Cn.oz Tryz.func36 Tryz.call36 Tryz.ntmps36 Tryz.results36 fun hfit => ?_
 unfold diff_number at h
 refine AW.kr [] [0] ?_
 refine AW.kr [0] [0, 2] ?_
 refine AW.ks [0, 3] [0, 2, 3] ?_
 refine AW.jn h (fun v1_0 => [(2, .ptr 0 6 0 0), (3, .ptr 1 3 0 0)]) (fun v1_0 => [some ⟨6, [[vI (0 : Int), vS (⟨#[]⟩ : ByteArray), vB false, .d (.val (.slice none 0 0)), .d (.val (.slice none 0 0)), .d (.val (.slice none 0 0))]]⟩, some ⟨3, [[vB false, vL u32V v1_0, vL u32V [(1 : Int)]]]⟩]) (fun oJ2 h => ?_) fun v1_0 h => ?_
 ·refine AW.ro ?_
  refine AW.ks [0, 1] [0, 2, 3, 7] ?_
  refine AW.tk h (fun hb3 h => ?_) fun hb3 h => ?_
  ·refine AW.rp ?_
   exact ja [0, 1] h
  refine JoinQ.mkS [] [0, 1] [] [] [(1, ⟨3, [[.d (.val (.bool false)), .d (slD u32V []), .d (slD u32V [(1 : Int)])]]⟩)] (Option.some.inj h) (by simp only [go_sem, reduceEqDiff, reduceAdd, reduceSub, reduceMul, reduceLeDiff, reduceLT, Nat.reduceBEq, reduceIte, sealL_cons, sealL_nil]) (by simp only [go_sem, reduceEqDiff, reduceAdd, reduceSub, reduceMul, reduceLeDiff, reduceLT, Nat.reduceBEq, reduceIte, sealH_cons, sealH_nil]; exact ⟨⟨.same _, .nil, .same _, trivial⟩, trivial⟩) (by simp only [go_sem, reduceEqDiff, reduceAdd, reduceSub, reduceMul, reduceLeDiff, reduceLT, Nat.reduceBEq, reduceIte])
 refine AW.ro ?_
 refine AW.ret ?_
 cases h; refine nz ?_; exact .aggL ⟨.same _, .same _, .same _, .same _, .same _, .nil, trivial⟩
/-! ### isochrone/tree.Copy -/
def tree_Copy_body (K : Nat) (self35 : NodeA → Option NodeA) (p0 : NodeA) : Option NodeA := ((
  if (decide ((0 : Int) < (p0.num.num.length : Int))) then
   (appO 4 [] p0.num.num).bind fun l4 =>
   some l4
  else
   some []) : Option (List Int)).bind (fun v1_0 =>
 ((
  if (decide ((0 : Int) < (p0.num.den.length : Int))) then
   (appO 4 [] p0.num.den).bind fun l9 =>
   some l9
  else
   some []) : Option (List Int)).bind (fun v6_0 =>
 ((iter (S := Int × (List NodeA)) (R := (List NodeA)) K (fun again (i11_0, i11_1) =>
  if (decide (i11_0 < (p0.kids.length : Int))) then
   (idx p0.kids i11_0).bind fun x16 =>
   (self35 (x16)).bind fun r18 =>
   (appO 104 i11_1 [r18]).bind fun l20 =>
   again (IntKind.wrap .i64 (i11_0 + (1 : Int)), l20)
  else
   some i11_1) ((0 : Int), [])) : Option (List NodeA)).bind (fun e12_0 =>
 some (NodeA.mk p0.op p0.name (RatA.mk p0.num.neg v1_0 v6_0) e12_0))))
set_option maxHeartbeats 4000000 in
theorem tree_Copy_stepO (K : Nat) (self35 : NodeA → Option NodeA) (hself35 : ∀ (q : NodeA) (r : NodeA), self35 q = some r → Cn Tryz.prog 35 [aggV q.enc] (aggV r.enc)) (p0 : NodeA) (r : NodeA) (h : tree_Copy_body K self35 p0 = some r) : Co Tryz.prog 35 [aggV p0.enc] (.agg [.d (.val (.int .i64 r.op)), .d (.val (.string r.name)), .d (.val (.bool r.num.neg)), .d (slD u32V r.num.num), .d (slD u32V r.num.den), accV 0 6 ((r.kids.map NodeA.enc).map (·.map .d))]) (accO 6 ((r.kids.map NodeA.enc).map (·.map .d))) := by
 refine Co.ofA mixed Tryz.func35 rfl Tryz.call35 Tryz.ntmps35 Tryz.results35 (by simp) datO_acc (by simp only [go_sem, reduceEqDiff, reduceAdd, reduceSub, reduceMul, reduceLeDiff, reduceLT, Nat.reduceBEq, reduceIte]) fun hfit => ?_
 unfold tree_Copy_body at h
 refine AW.kp [] [0] ?_
 refine AW.op mixed ?_
 refine AW.kp [0, 1] [1, 2] ?_
 refine AW.op mixed ?_
 refine AW.kp [0, 1, 11] [1, 2, 3] ?_
 refine AW.one ?_
 refine obindE h fun oJ2 h hJ2 => ?_
 refine AW.join (S := (List Int)) (fun v1_0 => [(1, .ptr 0 6 0 0), (2, .ptr 1 6 0 0), (3, .ptr 2 6 0 0)]) (fun v1_0 => [some ⟨6, [[.d (.val (.int .i64 p0.op)), .d (.val (.string p0.name)), .d (.val (.bool p0.num.neg)), .d (slD u32V p0.num.num), .d (slD u32V p0.num.den), .d (slD NodeA.enc p0.kids)]]⟩, some ⟨6, [[.d (.val (.int .i64 (0 : Int))), .d (.val (.string (⟨#[]⟩ : ByteArray))), .d (.val (.bool false)), .d (.val (.slice none 0 0)), .d (.val (.slice none 0 0)), .d (.val (.slice none 0 0))]]⟩, some ⟨6, [[.d (.val (.int .i64 p0.op)), .d (.val (.string p0.name)), .d (.val (.bool p0.num.neg)), .d (slD u32V v1_0), .d (.val (.slice none 0 0)), .d (.val (.slice none 0 0))]]⟩]) (fun x => x = oJ2) ?_ ?_
 ·skip
  refine AW.op mixed ?_
  refine AW.kp [0, 1, 2] [1, 2, 3, 20] ?_
  refine AW.ts (decide ((0 : Int) < (p0.num.num.length : Int))) (fun hb3 => ?_) (fun hb3 => ?_)
  ·have h := ifT hb3 h
   refine AW.rg mixed ?_
   apply obindE h; intro l4 hx5 h
   refine appD hx5 rfl (by simp only [go_sem, reduceEqDiff, reduceAdd, reduceSub, reduceMul, reduceLeDiff, reduceLT, Nat.reduceBEq, reduceIte]) ?_
   try simp only [go_sem, reduceEqDiff, reduceAdd, reduceSub, reduceMul, reduceLeDiff, reduceLT, Nat.reduceBEq, reduceIte]
   exact JoinQ.ar l4 [0, 1, 2] (Option.some.inj h)
  have h := ifF hb3 h
  refine AW.sk ?_
  refine JoinQ.mkS [] [0, 1, 2] [] [] [(2, ⟨6, [[.d (.val (.int .i64 p0.op)), .d (.val (.string p0.name)), .d (.val (.bool p0.num.neg)), .d (slD u32V []), .d (.val (.slice none 0 0)), .d (.val (.slice none 0 0))]]⟩)] (Option.some.inj h) (by simp only [go_sem, reduceEqDiff, reduceAdd, reduceSub, reduceMul, reduceLeDiff, reduceLT, Nat.reduceBEq, reduceIte, sealL_cons, sealL_nil]) (by simp only [go_sem, reduceEqDiff, reduceAdd, reduceSub, reduceMul, reduceLeDiff, reduceLT, Nat.reduceBEq, reduceIte, sealH_cons, sealH_nil]; exact ⟨⟨.same _, .same _, .same _, .nil, .same _, .same _, trivial⟩, trivial⟩) (by simp only [go_sem, reduceEqDiff, reduceAdd, reduceSub, reduceMul, reduceLeDiff, reduceLT, Nat.reduceBEq, reduceIte])
 rintro v1_0 rfl
 have h := hJ2
 try dsimp only [Out.fin] at h
 refine nz ?_
 refine AW.one ?_
 refine obindE h fun oJ7 h hJ7 => ?_
 refine AW.join (S := (List Int)) (fun v6_0 => [(1, .ptr 0 6 0 0), (2, .ptr 1 6 0 0), (3, .ptr 2 6 0 0)]) (fun v6_0 => [some ⟨6, [[.d (.val (.int .i64 p0.op)), .d (.val (.string p0.name)), .d (.val (.bool p0.num.neg)), .d (slD u32V p0.num.num), .d (slD u32V p0.num.den), .d (slD NodeA.enc p0.kids)]]⟩, some ⟨6, [[.d (.val (.int .i64 (0 : Int))), .d (.val (.string (⟨#[]⟩ : ByteArray))), .d (.val (.bool false)), .d (.val (.slice none 0 0)), .d (.val (.slice none 0 0)), .d (.val (.slice none 0 0))]]⟩, some ⟨6, [[.d (.val (.int .i64 p0.op)), .d (.val (.string p0.name)), .d (.val (.bool p0.num.neg)), .d (slD u32V v1_0), .d (slD u32V v6_0), .d (.val (.slice none 0 0))]]⟩]) (fun x => x = oJ7) ?_ ?_
 ·skip
  refine AW.op mixed ?_
  refine AW.kp [0, 1, 2] [1, 2, 3, 31] ?_
  refine AW.ts (decide ((0 : Int) < (p0.num.den.length : Int))) (fun hb8 => ?_) (fun hb8 => ?_)
  ·have h := ifT hb8 h
   refine AW.rg mixed ?_
   apply obindE h; intro l9 hx10 h
   refine appD hx10 rfl (by simp only [go_sem, reduceEqDiff, reduceAdd, reduceSub, reduceMul, reduceLeDiff, reduceLT, Nat.reduceBEq, reduceIte]) ?_
   try simp only [go_sem, reduceEqDiff, reduceAdd, reduceSub, reduceMul, reduceLeDiff, reduceLT, Nat.reduceBEq, reduceIte]
   exact JoinQ.ar l9 [0, 1, 2] (Option.some.inj h)
  have h := ifF hb8 h
  refine AW.sk ?_
  refine JoinQ.mkS [] [0, 1, 2] [] [] [(2, ⟨6, [[.d (.val (.int .i64 p0.op)), .d (.val (.string p0.name)), .d (.val (.bool p0.num.neg)), .d (slD u32V v1_0), .d (slD u32V []), .d (.val (.slice none 0 0))]]⟩)] (Option.some.inj h) (by simp only [go_sem, reduceEqDiff, reduceAdd, reduceSub, reduceMul, reduceLeDiff, reduceLT, Nat.reduceBEq, reduceIte, sealL_cons, sealL_nil]) (by simp only [go_sem, reduceEqDiff, reduceAdd, reduceSub, reduceMul, reduceLeDiff, reduceLT, Nat.reduceBEq, reduceIte, sealH_cons, sealH_nil]; exact ⟨⟨.same _, .same _, .same _, .same _, .nil, .same _, trivial⟩, trivial⟩) (by simp only [go_sem, reduceEqDiff, reduceAdd, reduceSub, reduceMul, reduceLeDiff, reduceLT, Nat.reduceBEq, reduceIte])
 rintro v6_0 rfl
 have h := hJ7
 try dsimp only [Out.fin] at h
 refine nz ?_
 refine AW.one ?_
 refine AW.op mixed ?_
 refine AW.kp [1, 2] [2, 3, 39, 40, 41] ?_
 refine obindE h fun oJ14 h hJ14 => ?_
 refine AW.join (S := (List NodeA)) (fun e12_0 => [(2, .ptr 0 6 0 0), (3, .ptr 1 6 0 0)]) (fun e12_0 => [some ⟨6, [[.d (.val (.int .i64 (0 : Int))), .d (.val (.string (⟨#[]⟩ : ByteArray))), .d (.val (.bool false)), .d (.val (.slice none 0 0)), .d (.val (.slice none 0 0)), .d (.val (.slice none 0 0))]]⟩, some ⟨6, [[.d (.val (.int .i64 p0.op)), .d (.val (.string p0.name)), .d (.val (.bool p0.num.neg)), .d (slD u32V v1_0), .d (slD u32V v6_0), accV 2 6 ((e12_0.map NodeA.enc).map (·.map .d))]]⟩, accO 6 ((e12_0.map NodeA.enc).map (·.map .d))]) (fun x => x = oJ14) ?_ ?_
 ·refine AW.block ?_
  refine AW.iter (S := Int × (List NodeA)) (fun (i11_0, i11_1) => [(2, .ptr 0 6 0 0), (3, .ptr 1 6 0 0), (39, .d (slD NodeA.enc p0.kids)), (40, .d (.val (.int .i64 (p0.kids.length : Int)))), (41, .d (.val (.int .i64 i11_0)))]) (fun (i11_0, i11_1) => [some ⟨6, [[.d (.val (.int .i64 (0 : Int))), .d (.val (.string (⟨#[]⟩ : ByteArray))), .d (.val (.bool false)), .d (.val (.slice none 0 0)), .d (.val (.slice none 0 0)), .d (.val (.slice none 0 0))]]⟩, some ⟨6, [[.d (.val (.int .i64 p0.op)), .d (.val (.string p0.name)), .d (.val (.bool p0.num.neg)), .d (slD u32V v1_0), .d (slD u32V v6_0), accV 2 6 ((i11_1.map NodeA.enc).map (·.map .d))]]⟩, accO 6 ((i11_1.map NodeA.enc).map (·.map .d))]) [0, 1, 1002] h (by simp only [go_sem, reduceEqDiff, reduceAdd, reduceSub, reduceMul, reduceLeDiff, reduceLT, Nat.reduceBEq, reduceIte]) ?_
  rintro again ⟨i11_0, i11_1⟩ h
  try dsimp only at h
  refine AW.op mixed ?_
  refine AW.cu [0, 1, 2] [(2, .ptr 0 6 0 0), (3, .ptr 1 6 0 0), (39, .d (slD NodeA.enc p0.kids)), (40, .d (.val (.int .i64 (p0.kids.length : Int)))), (41, .d (.val (.int .i64 i11_0))), (42, .d (.val (.bool (decide (i11_0 < (p0.kids.length : Int))))))] [some ⟨6, [[.d (.val (.int .i64 (0 : Int))), .d (.val (.string (⟨#[]⟩ : ByteArray))), .d (.val (.bool false)), .d (.val (.slice none 0 0)), .d (.val (.slice none 0 0)), .d (.val (.slice none 0 0))]]⟩, some ⟨6, [[.d (.val (.int .i64 p0.op)), .d (.val (.string p0.name)), .d (.val (.bool p0.num.neg)), .d (slD u32V v1_0), .d (slD u32V v6_0), accV 2 6 ((i11_1.map NodeA.enc).map (·.map .d))]]⟩, accO 6 ((i11_1.map NodeA.enc).map (·.map .d))] ?_
  refine AW.one ?_
  refine AW.ts (decide (i11_0 < (p0.kids.length : Int))) (fun hb15 => ?_) (fun hb15 => ?_)
  ·have h := ifT hb15 h
   refine AW.sk ?_
   refine AW.cu [0, 1, 2] [(2, .ptr 0 6 0 0), (3, .ptr 1 6 0 0), (39, .d (slD NodeA.enc p0.kids)), (40, .d (.val (.int .i64 (p0.kids.length : Int)))), (41, .d (.val (.int .i64 i11_0)))] [some ⟨6, [[.d (.val (.int .i64 (0 : Int))), .d (.val (.string (⟨#[]⟩ : ByteArray))), .d (.val (.bool false)), .d (.val (.slice none 0 0)), .d (.val (.slice none 0 0)), .d (.val (.slice none 0 0))]]⟩, some ⟨6, [[.d (.val (.int .i64 p0.op)), .d (.val (.string p0.name)), .d (.val (.bool p0.num.neg)), .d (slD u32V v1_0), .d (slD u32V v6_0), accV 2 6 ((i11_1.map NodeA.enc).map (·.map .d))]]⟩, accO 6 ((i11_1.map NodeA.enc).map (·.map .d))] ?_
   refine AW.one ?_
   refine AW.block ?_
   refine AW.one ?_
   refine AW.reg mixed (by kernel_rfl) ?_
   apply obindE h; intro x16 hx17 h
   try simp only [go_sem, reduceEqDiff, reduceAdd, reduceSub, reduceMul, reduceLeDiff, reduceLT, Nat.reduceBEq, reduceIte, (idx_some hx17).1, (idx_some hx17).2]
   refine AW.cut [0, 1, 2, 5] [(2, .ptr 0 6 0 0), (3, .ptr 1 6 0 0), (5, .ptr 3 6 0 0), (39, .d (slD NodeA.enc p0.kids)), (40, .d (.val (.int .i64 (p0.kids.length : Int)))), (41, .d (.val (.int .i64 i11_0)))] [some ⟨6, [[.d (.val (.int .i64 (0 : Int))), .d (.val (.string (⟨#[]⟩ : ByteArray))), .d (.val (.bool false)), .d (.val (.slice none 0 0)), .d (.val (.slice none 0 0)), .d (.val (.slice none 0 0))]]⟩, some ⟨6, [[.d (.val (.int .i64 p0.op)), .d (.val (.string p0.name)), .d (.val (.bool p0.num.neg)), .d (slD u32V v1_0), .d (slD u32V v6_0), accV 2 6 ((i11_1.map NodeA.enc).map (·.map .d))]]⟩, accO 6 ((i11_1.map NodeA.enc).map (·.map .d)), some ⟨6, [[.d (.val (.int .i64 x16.op)), .d (.val (.string x16.name)), .d (.val (.bool x16.num.neg)), .d (slD u32V x16.num.num), .d (slD u32V x16.num.den), .d (slD NodeA.enc x16.kids)]]⟩] (by simp only [go_sem, reduceEqDiff, reduceAdd, reduceSub, reduceMul, reduceLeDiff, reduceLT, Nat.reduceBEq, reduceIte, (idx_some hx17).1, (idx_some hx17).2]) ?_
   refine AW.op mixed ?_
   apply obindE h; intro r18 hx19 h
   have hc := nx (hself35 _ _ hx19)
   refine callP hc ?_
   refine AW.cu [0, 1, 2, 6] [(2, .ptr 0 6 0 0), (3, .ptr 1 6 0 0), (6, .ptr 3 6 0 0), (39, .d (slD NodeA.enc p0.kids)), (40, .d (.val (.int .i64 (p0.kids.length : Int)))), (41, .d (.val (.int .i64 i11_0)))] [some ⟨6, [[.d (.val (.int .i64 (0 : Int))), .d (.val (.string (⟨#[]⟩ : ByteArray))), .d (.val (.bool false)), .d (.val (.slice none 0 0)), .d (.val (.slice none 0 0)), .d (.val (.slice none 0 0))]]⟩, some ⟨6, [[.d (.val (.int .i64 p0.op)), .d (.val (.string p0.name)), .d (.val (.bool p0.num.neg)), .d (slD u32V v1_0), .d (slD u32V v6_0), accV 2 6 ((i11_1.map NodeA.enc).map (·.map .d))]]⟩, accO 6 ((i11_1.map NodeA.enc).map (·.map .d)), some ⟨6, [[.d (.val (.int .i64 r18.op)), .d (.val (.string r18.name)), .d (.val (.bool r18.num.neg)), .d (slD u32V r18.num.num), .d (slD u32V r18.num.den), .d (slD NodeA.enc r18.kids)]]⟩] ?_
   refine AW.rg mixed ?_
   apply obindE h; intro l20 hx21 h
   refine appG hx21 rfl (by simp only [go_sem, reduceEqDiff, reduceAdd, reduceSub, reduceMul, reduceLeDiff, reduceLT, Nat.reduceBEq, reduceIte]) (by simp only [go_sem, reduceEqDiff, reduceAdd, reduceSub, reduceMul, reduceLeDiff, reduceLT, Nat.reduceBEq, reduceIte]) (by simp only [go_sem, reduceEqDiff, reduceAdd, reduceSub, reduceMul, reduceLeDiff, reduceLT, Nat.reduceBEq, reduceIte]) (by simp) ?_
   try simp only [go_sem, reduceEqDiff, reduceAdd, reduceSub, reduceMul, reduceLeDiff, reduceLT, Nat.reduceBEq, reduceIte]
   refine AW.cu [0, 1, 8] [(2, .ptr 0 6 0 0), (3, .ptr 1 6 0 0), (39, .d (slD NodeA.enc p0.kids)), (40, .d (.val (.int .i64 (p0.kids.length : Int)))), (41, .d (.val (.int .i64 i11_0)))] [some ⟨6, [[.d (.val (.int .i64 (0 : Int))), .d (.val (.string (⟨#[]⟩ : ByteArray))), .d (.val (.bool false)), .d (.val (.slice none 0 0)), .d (.val (.slice none 0 0)), .d (.val (.slice none 0 0))]]⟩, some ⟨6, [[.d (.val (.int .i64 p0.op)), .d (.val (.string p0.name)), .d (.val (.bool p0.num.neg)), .d (slD u32V v1_0), .d (slD u32V v6_0), accV 2 6 ((l20.map NodeA.enc).map (·.map .d))]]⟩, accO 6 ((l20.map NodeA.enc).map (·.map .d))] ?_
   refine AW.rg mixed ?_
   exact NextQ.ar (IntKind.wrap .i64 (i11_0 + (1 : Int)), l20) [0, 1, 2] h
  have h := ifF hb15 h
  refine AW.ex ?_
  exact JoinQ.ar i11_1 [0, 1, 2] (Option.some.inj h)
 rintro e12_0 rfl
 have h := hJ14
 try dsimp only [Out.fin] at h
 refine nz ?_
 refine AW.cu [0, 1, 2] [(2, .ptr 0 6 0 0), (3, .ptr 1 6 0 0)] [some ⟨6, [[.d (.val (.int .i64 (0 : Int))), .d (.val (.string (⟨#[]⟩ : ByteArray))), .d (.val (.bool false)), .d (.val (.slice none 0 0)), .d (.val (.slice none 0 0)), .d (.val (.slice none 0 0))]]⟩, some ⟨6, [[.d (.val (.int .i64 p0.op)), .d (.val (.string p0.name)), .d (.val (.bool p0.num.neg)), .d (slD u32V v1_0), .d (slD u32V v6_0), accV 2 6 ((e12_0.map NodeA.enc).map (·.map .d))]]⟩, accO 6 ((e12_0.map NodeA.enc).map (·.map .d))] ?_
 refine AW.op mixed ?_
 refine AW.ret ?_
 obtain rfl := Option.some.inj h
 refine nz ?_
 refine OwnRes.mk 2 (nz ?_) (by simp only [go_sem, reduceEqDiff, reduceAdd, reduceSub, reduceMul, reduceLeDiff, reduceLT, Nat.reduceBEq, reduceIte])
 exact .same _
theorem tree_Copy_step (K : Nat) (self35 : NodeA → Option NodeA) (hself35 : ∀ (q : NodeA) (r : NodeA), self35 q = some r → Cn Tryz.prog 35 [aggV q.enc] (aggV r.enc)) (p0 : NodeA) (r : NodeA) (h : tree_Copy_body K self35 p0 = some r) : Cn Tryz.prog 35 [aggV p0.enc] (aggV r.enc) := by
 refine Cn.ofCo (tree_Copy_stepO K _ hself35 p0 r h) (nz ?_) (by simp only [go_sem, reduceEqDiff, reduceAdd, reduceSub, reduceMul, reduceLeDiff, reduceLT, Nat.reduceBEq, reduceIte])
 exact .aggL ⟨.same _, .same _, .same _, .same _, .same _, sealAcc (by simp only [go_sem, reduceEqDiff, reduceAdd, reduceSub, reduceMul, reduceLeDiff, reduceLT, Nat.reduceBEq, reduceIte]), trivial⟩
def tree_Copy (K : Nat) (p0 : NodeA) : Option NodeA := iter K (fun self q => tree_Copy_body K self q) p0
theorem key_tree_Copy {K : Nat} (k : Nat) : (∀ (q : NodeA) (r : NodeA), iter k (fun self q => tree_Copy_body K self q) q = some r → Cn Tryz.prog 35 [aggV q.enc] (aggV r.enc)) := by
 induction k with
 | zero => exact fun q r h => by cases h
 | succ k ih => exact fun q r h => tree_Copy_step K _ ih q r h
theorem tree_Copy_own {K : Nat} {p0 : NodeA} {r : NodeA} (h : tree_Copy K p0 = some r) : Co Tryz.prog 35 [aggV p0.enc] (.agg [.d (.val (.int .i64 r.op)), .d (.val (.string r.name)), .d (.val (.bool r.num.neg)), .d (slD u32V r.num.num), .d (slD u32V r.num.den), accV 0 6 ((r.kids.map NodeA.enc).map (·.map .d))]) (accO 6 ((r.kids.map NodeA.enc).map (·.map .d))) := by
 unfold tree_Copy at h
 have key : ∀ k, iter k (fun self q => tree_Copy_body K self q) p0 = some r → Co Tryz.prog 35 [aggV p0.enc] (.agg [.d (.val (.int .i64 r.op)), .d (.val (.string r.name)), .d (.val (.bool r.num.neg)), .d (slD u32V r.num.num), .d (slD u32V r.num.den), accV 0 6 ((r.kids.map NodeA.enc).map (·.map .d))]) (accO 6 ((r.kids.map NodeA.enc).map (·.map .d))) := fun k h => by
  cases k with
  | zero => cases h
  | succ k => exact tree_Copy_stepO K _ (key_tree_Copy k) p0 r h
 exact key K h
theorem tree_Copy_ok {K : Nat} {p0 : NodeA} {r : NodeA} (h : tree_Copy K p0 = some r) : Cn Tryz.prog 35 [aggV p0.enc] (aggV r.enc) := (key_tree_Copy K) p0 r h
/-! ### isochrone/diff.of -/
def diff_of_body (K : Nat) (self23 : NodeA → Option (NodeA × Bool)) (self48 : (Int × NodeA) → Option (NodeA × Bool)) (self49 : (Int × NodeA) → Option (NodeA × Bool)) (p0 : NodeA) : Option (NodeA × Bool) := ((
  if (p0.op == (1 : Int)) then
   (diff_number K (0 : Int)).bind fun r4 =>
   outM (
    some (r4, true))
  else
   if (p0.op == (2 : Int)) then
    outM (
     some ((NodeA.mk (3 : Int) p0.name (RatA.mk false [] []) []), true))
   else
    if (p0.op == (4 : Int)) then
     (self48 ((0 : Int), p0)).bind fun r8 =>
     (diff_node K (4 : Int) [r8.1]).bind fun r10 =>
     outM (
      some (r10, r8.2))
    else
     ((
      if (p0.op == (5 : Int)) then
       some (p0.op == (5 : Int))
      else
       some (p0.op == (6 : Int))) : Option Bool).bind (fun v12_0 =>
     if v12_0 then
      (self49 (p0.op, p0)).bind fun r16 =>
      outM (
       some (r16.1, r16.2))
     else
      if (p0.op == (7 : Int)) then
       (self48 ((0 : Int), p0)).bind fun r19 =>
       (self48 ((1 : Int), p0)).bind fun r21 =>
       (idx p0.kids (1 : Int)).bind fun x23 =>
       (tree_Copy K x23).bind fun r25 =>
       (diff_node K (7 : Int) [r19.1, r25]).bind fun r27 =>
       (idx p0.kids (0 : Int)).bind fun x29 =>
       (tree_Copy K x29).bind fun r31 =>
       (diff_node K (7 : Int) [r31, r21.1]).bind fun r33 =>
       (diff_node K (5 : Int) [r27, r33]).bind fun r35 =>
       if r19.2 then
        outM (
         some (r35, r21.2))
       else
        outM (
         some (r35, false))
      else
       if (p0.op == (8 : Int)) then
        (self48 ((0 : Int), p0)).bind fun r39 =>
        (idx p0.kids (1 : Int)).bind fun x41 =>
        (tree_Copy K x41).bind fun r43 =>
        (diff_node K (8 : Int) [r39.1, r43]).bind fun r45 =>
        outM (
         some (r45, r39.2))
       else
        if (p0.op == (9 : Int)) then
         ((
          (idx p0.kids (1 : Int)).bind fun x50 =>
          if (decide ((0 : Int) < (x50.num.num.length : Int))) then
           (idx x50.num.num (0 : Int)).bind fun x53 =>
           some x53
          else
           some (0 : Int)) : Option Int).bind (fun v48_0 =>
         (self48 ((0 : Int), p0)).bind fun r55 =>
         if (v48_0 == (0 : Int)) then
          (diff_number K (0 : Int)).bind fun r58 =>
          outM (
           some (r58, r55.2))
         else
          if (v48_0 == (1 : Int)) then
           outM (
            some (r55.1, r55.2))
          else
           (idx p0.kids (0 : Int)).bind fun x61 =>
           (tree_Copy K x61).bind fun r63 =>
           (diff_number K (IntKind.wrap .u32 (v48_0 - (1 : Int)))).bind fun r65 =>
           (diff_node K (9 : Int) [r63, r65]).bind fun r67 =>
           (diff_number K v48_0).bind fun r69 =>
           (diff_node K (7 : Int) [r69, r67]).bind fun r71 =>
           (diff_node K (7 : Int) [r71, r55.1]).bind fun r73 =>
           outM (
            some (r73, r55.2)))
        else
         if (p0.op == (10 : Int)) then
          (diff_number K (0 : Int)).bind fun r76 =>
          outM (
           some (r76, ((p0.kids.length : Int) == (0 : Int))))
         else
          if (p0.op == (11 : Int)) then
           (tree_Copy K p0).bind fun r79 =>
           (diff_node K (12 : Int) [r79]).bind fun r81 =>
           outM (
            some (r81, true))
          else
           ((
            if (p0.op == (20 : Int)) then
             some (p0.op == (20 : Int))
            else
             some (p0.op == (21 : Int))) : Option Bool).bind (fun v83_0 =>
           if v83_0 then
            (diff_node K (20 : Int) []).bind fun r87 =>
            outM (
             some (r87, true))
           else
            ((
             if (p0.op == (22 : Int)) then
              some (p0.op == (22 : Int))
             else
              some (p0.op == (23 : Int))) : Option Bool).bind (fun v89_0 =>
            if v89_0 then
             (self49 ((22 : Int), p0)).bind fun r93 =>
             outM (
              some (r93.1, r93.2))
            else
             ((
              if (p0.op == (24 : Int)) then
               some (p0.op == (24 : Int))
              else
               some (p0.op == (25 : Int))) : Option Bool).bind (fun v95_0 =>
             if v95_0 then
              (self49 ((25 : Int), p0)).bind fun r99 =>
              outM (
               some (r99.1, r99.2))
             else
              ((
               if (p0.op == (26 : Int)) then
                some (p0.op == (26 : Int))
               else
                some (p0.op == (27 : Int))) : Option Bool).bind (fun v101_0 =>
              if v101_0 then
               (self49 ((27 : Int), p0)).bind fun r105 =>
               outM (
                some (r105.1, r105.2))
              else
               ((
                if (p0.op == (29 : Int)) then
                 some (p0.op == (29 : Int))
                else
                 some (p0.op == (30 : Int))) : Option Bool).bind (fun v107_0 =>
               if v107_0 then
                (self49 ((29 : Int), p0)).bind fun r111 =>
                outM (
                 some (r111.1, r111.2))
               else
                if (p0.op == (38 : Int)) then
                 (tree_Copy K p0).bind fun r114 =>
                 (diff_node K (39 : Int) [r114]).bind fun r116 =>
                 outM (
                  some (r116, true))
                else
                 some (.go ())))))))) : Option (Out Unit _)).bind (Out.fin fun _ =>
 some ((NodeA.mk (0 : Int) (⟨#[]⟩ : ByteArray) (RatA.mk false [] []) []), false))
set_option maxHeartbeats 4000000 in
theorem diff_of_step (K : Nat) (self23 : NodeA → Option (NodeA × Bool)) (self48 : (Int × NodeA) → Option (NodeA × Bool)) (self49 : (Int × NodeA) → Option (NodeA × Bool)) (hself23 : ∀ (q : NodeA) (r : NodeA × Bool), self23 q = some r → Cn Tryz.prog 23 [aggV q.enc] (.tup [aggV r.1.enc, .d (.val (.bool r.2))])) (hself48 : ∀ (q : Int × NodeA) (r : NodeA × Bool), self48 q = some r → Cn Tryz.prog 48 [.d (.val (.int .i64 q.1)), .iptr [.val (.int .i64 q.2.op), .val (.string q.2.name), .val (.bool q.2.num.neg), slD u32V q.2.num.num, slD u32V q.2.num.den, slD NodeA.enc q.2.kids]] (.tup [aggV r.1.enc, .d (.val (.bool r.2))])) (hself49 : ∀ (q : Int × NodeA) (r : NodeA × Bool), self49 q = some r → Cl Tryz.prog 49 [.d (.val (.int .i64 q.1)), .ptr 0 1 0 0] [⟨1, [[.fn 48 [.iptr [.val (.int .i64 q.2.op), .val (.string q.2.name), .val (.bool q.2.num.neg), slD u32V q.2.num.num, slD u32V q.2.num.den, slD NodeA.enc q.2.kids]]]]⟩] (.tup [aggV r.1.enc, .d (.val (.bool r.2))]) [⟨1, [[.fn 48 [.iptr [.val (.int .i64 q.2.op), .val (.string q.2.name), .val (.bool q.2.num.neg), slD u32V q.2.num.num, slD u32V q.2.num.den, slD NodeA.enc q.2.kids]]]]⟩]) (p0 : NodeA) (r : NodeA × Bool) (h : diff_of_body K self23 self48 self49 p0 = some r) : Cn Tryz.prog 23 [aggV p0.enc] (.tup [aggV r.1.enc, .d (.val (.bool r.2))]) := by
 refine Cn.ofA mixed Tryz.func23 rfl Tryz.call23 Tryz.ntmps23 Tryz.results23 (by simp) (by simp only [go_sem, reduceEqDiff, reduceAdd, reduceSub, reduceMul, reduceLeDiff, reduceLT, Nat.reduceBEq, reduceIte]) fun hfit => ?_
 unfold diff_of_body at h
 refine AW.kp [] [0] ?_
 refine AW.op mixed ?_
 refine AW.kp [0, 1] [1, 2] ?_
 refine AW.op mixed ?_
 refine AW.cutS [1, 3] [0] [(1, .iptr [.val (.int .i64 p0.op), .val (.string p0.name), .val (.bool p0.num.neg), slD u32V p0.num.num, slD u32V p0.num.den, slD NodeA.enc p0.kids])] [(3, ⟨1, [[.fn 48 [.iptr [.val (.int .i64 p0.op), .val (.string p0.name), .val (.bool p0.num.neg), slD u32V p0.num.num, slD u32V p0.num.den, slD NodeA.enc p0.kids]]]]⟩)] [(1, .iptr [.val (.int .i64 p0.op), .val (.string p0.name), .val (.bool p0.num.neg), slD u32V p0.num.num, slD u32V p0.num.den, slD NodeA.enc p0.kids]), (2, .ptr 0 6 0 0), (4, .ptr 1 1 0 0)] [some ⟨6, [[.d (.val (.int .i64 (0 : Int))), .d (.val (.string (⟨#[]⟩ : ByteArray))), .d (.val (.bool false)), .d (.val (.slice none 0 0)), .d (.val (.slice none 0 0)), .d (.val (.slice none 0 0))]]⟩, some ⟨1, [[.fn 48 [.iptr [.val (.int .i64 p0.op), .val (.string p0.name), .val (.bool p0.num.neg), slD u32V p0.num.num, slD u32V p0.num.den, slD NodeA.enc p0.kids]]]]⟩] (by simp only [go_sem, reduceEqDiff, reduceAdd, reduceSub, reduceMul, reduceLeDiff, reduceLT, Nat.reduceBEq, reduceIte, sealL_cons, sealL_nil]; exact sealPtr (by simp only [go_sem, reduceEqDiff, reduceAdd, reduceSub, reduceMul, reduceLeDiff, reduceLT, Nat.reduceBEq, reduceIte])) (by simp only [go_sem, reduceEqDiff, reduceAdd, reduceSub, reduceMul, reduceLeDiff, reduceLT, Nat.reduceBEq, reduceIte, sealH_cons, sealH_nil]; exact ⟨⟨.fnL ⟨sealPtr (by simp only [go_sem, reduceEqDiff, reduceAdd, reduceSub, reduceMul, reduceLeDiff, reduceLT, Nat.reduceBEq, reduceIte]), trivial⟩, trivial⟩, trivial⟩) (by simp only [go_sem, reduceEqDiff, reduceAdd, reduceSub, reduceMul, reduceLeDiff, reduceLT, Nat.reduceBEq, reduceIte]) ?_
 refine AW.op mixed ?_
 refine AW.kp [0, 1] [1, 2, 4, 5] ?_
 refine AW.one ?_
 refine obindE h fun oJ2 h hJ2 => ?_
 refine AW.join (S := Unit) (fun _ => [(2, .ptr 0 6 0 0)]) (fun _ => [some ⟨6, [[.d (.val (.int .i64 (0 : Int))), .d (.val (.string (⟨#[]⟩ : ByteArray))), .d (.val (.bool false)), .d (.val (.slice none 0 0)), .d (.val (.slice none 0 0)), .d (.val (.slice none 0 0))]]⟩]) (fun x => oJ2 = .go x) ?_ ?_
 ·skip
  refine AW.op mixed ?_
  refine AW.kp [0, 1] [1, 2, 4, 5, 22] ?_
  refine AW.block ?_
  refine AW.op mixed ?_
  refine AW.kp [0, 1] [1, 2, 4, 5, 22, 23] ?_
  refine AW.ts (p0.op == (1 : Int)) (fun hb3 => ?_) (fun hb3 => ?_)
  ·have h := ifT hb3 h
   refine AW.op mixed ?_
   apply obindE h; intro r4 hx5 h
   have hc := nx (diff_number_ok (h := hx5))
   refine callP hc ?_
   refine AW.ret ?_
   obtain ⟨_, h, ho⟩ := outM_some h
   rw [ho, Out.fin_out] at hJ2
   have h := h.trans hJ2
   obtain rfl := Option.some.inj h
   refine nz ?_
   exact .same _
  have h := ifF hb3 h
  refine AW.op mixed ?_
  refine AW.kp [0, 1] [1, 2, 4, 5, 22, 26] ?_
  refine AW.ts (p0.op == (2 : Int)) (fun hb6 => ?_) (fun hb6 => ?_)
  ·have h := ifT hb6 h
   refine AW.op mixed ?_
   refine AW.ret ?_
   obtain ⟨_, h, ho⟩ := outM_some h
   rw [ho, Out.fin_out] at hJ2
   have h := h.trans hJ2
   obtain rfl := Option.some.inj h
   refine nz ?_
   exact .tupL ⟨.aggL ⟨.same _, .same _, .same _, .nil, .nil, .nil, trivial⟩, .same _, trivial⟩
  have h := ifF hb6 h
  refine AW.op mixed ?_
  refine AW.kp [0, 1] [1, 2, 4, 5, 22, 31] ?_
  refine AW.ts (p0.op == (4 : Int)) (fun hb7 => ?_) (fun hb7 => ?_)
  ·have h := ifT hb7 h
   refine AW.op mixed ?_
   apply obindE h; intro r8 hx9 h
   have hc := nx (hself48 _ _ hx9)
   refine callP hc ?_
   refine AW.kp [0, 7] [2, 6, 7] ?_
   refine AW.op mixed ?_
   apply obindE h; intro r10 hx11 h
   have hc := diff_node_ok (h := hx11)
   try simp only [slD, NodeA.enc_eta, RatA.enc_eta, NodeA.op_mk, NodeA.name_mk, NodeA.num_mk, NodeA.kids_mk, aggV, i64V, u32V, strV, List.map_cons, List.map_nil] at hc
   refine callK_conv hc ⟨.same _, .d (.dn (.rows ⟨(nilL_eq (by simp only [go_sem, reduceEqDiff, reduceAdd, reduceSub, reduceMul, reduceLeDiff, reduceLT, Nat.reduceBEq, reduceIte])), trivial⟩)), trivial⟩ (by simp only [go_sem, reduceEqDiff, reduceAdd, reduceSub, reduceMul, reduceLeDiff, reduceLT, Nat.reduceBEq, reduceIte]) ?_
   try simp only [go_sem, reduceEqDiff, reduceAdd, reduceSub, reduceMul, reduceLeDiff, reduceLT, Nat.reduceBEq, reduceIte]
   refine AW.ret ?_
   obtain ⟨_, h, ho⟩ := outM_some h
   rw [ho, Out.fin_out] at hJ2
   have h := h.trans hJ2
   obtain rfl := Option.some.inj h
   refine nz ?_
   exact .same _
  have h := ifF hb7 h
  refine AW.one ?_
  refine obindE h fun oJ13 h hJ13 => ?_
  refine AW.join (S := Bool) (fun v12_0 => [(1, .iptr [.val (.int .i64 p0.op), .val (.string p0.name), .val (.bool p0.num.neg), slD u32V p0.num.num, slD u32V p0.num.den, slD NodeA.enc p0.kids]), (2, .ptr 0 6 0 0), (4, .ptr 1 1 0 0), (5, .fn 49 [.ptr 1 1 0 0]), (22, .d (.val (.int .i64 p0.op))), (42, .d (.val (.bool v12_0)))]) (fun v12_0 => [some ⟨6, [[.d (.val (.int .i64 (0 : Int))), .d (.val (.string (⟨#[]⟩ : ByteArray))), .d (.val (.bool false)), .d (.val (.slice none 0 0)), .d (.val (.slice none 0 0)), .d (.val (.slice none 0 0))]]⟩, some ⟨1, [[.fn 48 [.iptr [.val (.int .i64 p0.op), .val (.string p0.name), .val (.bool p0.num.neg), slD u32V p0.num.num, slD u32V p0.num.den, slD NodeA.enc p0.kids]]]]⟩]) (fun x => x = oJ13) ?_ ?_
  ·skip
   refine AW.op mixed ?_
   refine AW.kp [0, 1] [1, 2, 4, 5, 22, 42] ?_
   refine AW.ts (p0.op == (5 : Int)) (fun hb14 => ?_) (fun hb14 => ?_)
   ·have h := ifT hb14 h
    refine AW.sk ?_
    exact JoinQ.ar (p0.op == (5 : Int)) [0, 1] (Option.some.inj h)
   have h := ifF hb14 h
   refine AW.rg mixed ?_
   exact JoinQ.ar (p0.op == (6 : Int)) [0, 1] (Option.some.inj h)
  rintro v12_0 rfl
  have h := hJ13
  try dsimp only [Out.fin] at h
  refine nz ?_
  refine AW.ts v12_0 (fun hb15 => ?_) (fun hb15 => ?_)
  ·have h := ifT hb15 h
   refine AW.op mixed ?_
   apply obindE h; intro r16 hx17 h
   have hc := nx (hself49 _ _ hx17)
   refine callK_loc [1] hc (by simp only [go_sem, reduceEqDiff, reduceAdd, reduceSub, reduceMul, reduceLeDiff, reduceLT, Nat.reduceBEq, reduceIte]) (by simp) (by simp only [go_sem, reduceEqDiff, reduceAdd, reduceSub, reduceMul, reduceLeDiff, reduceLT, Nat.reduceBEq, reduceIte]) ?_
   try simp only [go_sem, reduceEqDiff, reduceAdd, reduceSub, reduceMul, reduceLeDiff, reduceLT, Nat.reduceBEq, reduceIte]
   refine AW.ret ?_
   obtain ⟨_, h, ho⟩ := outM_some h
   rw [ho, Out.fin_out] at hJ2
   have h := h.trans hJ2
   obtain rfl := Option.some.inj h
   refine nz ?_
   exact .same _
  have h := ifF hb15 h
  refine AW.op mixed ?_
  refine AW.kp [0, 1] [1, 2, 4, 5, 22, 51] ?_
  refine AW.ts (p0.op == (7 : Int)) (fun hb18 => ?_) (fun hb18 => ?_)
  ·have h := ifT hb18 h
   refine AW.op mixed ?_
   apply obindE h; intro r19 hx20 h
   have hc := nx (hself48 _ _ hx20)
   refine callP hc ?_
   refine AW.kp [0, 1, 7] [1, 2, 4, 8, 9] ?_
   refine AW.op mixed ?_
   apply obindE h; intro r21 hx22 h
   have hc := nx (hself48 _ _ hx22)
   refine callP hc ?_
   refine AW.kp [0, 2, 8] [1, 2, 8, 9, 10, 11] ?_
   refine AW.one ?_
   refine AW.reg mixed (by kernel_rfl) ?_
   apply obindE h; intro x23 hx24 h
   try simp only [go_sem, reduceEqDiff, reduceAdd, reduceSub, reduceMul, reduceLeDiff, reduceLT, Nat.reduceBEq, reduceIte, (idx_some hx24).1, (idx_some hx24).2]
   apply obindE h; intro r25 hx26 h
   have hc := nx (tree_Copy_ok (h := hx26))
   refine pcallK_intro hc (by simp only [go_sem, reduceEqDiff, reduceAdd, reduceSub, reduceMul, reduceLeDiff, reduceLT, Nat.reduceBEq, reduceIte]) ?_
   try simp only [go_sem, reduceEqDiff, reduceAdd, reduceSub, reduceMul, reduceLeDiff, reduceLT, Nat.reduceBEq, reduceIte, (idx_some hx24).1, (idx_some hx24).2]
   apply obindE h; intro r27 hx28 h
   have hc := diff_node_ok (h := hx28)
   try simp only [slD, NodeA.enc_eta, RatA.enc_eta, NodeA.op_mk, NodeA.name_mk, NodeA.num_mk, NodeA.kids_mk, aggV, i64V, u32V, strV, List.map_cons, List.map_nil] at hc
   refine pcallK_conv hc ⟨.same _, .d (.dn (.rows ⟨(nilL_eq (by simp only [go_sem, reduceEqDiff, reduceAdd, reduceSub, reduceMul, reduceLeDiff, reduceLT, Nat.reduceBEq, reduceIte])), (nilL_eq (by simp only [go_sem, reduceEqDiff, reduceAdd, reduceSub, reduceMul, reduceLeDiff, reduceLT, Nat.reduceBEq, reduceIte])), trivial⟩)), trivial⟩ (by simp only [go_sem, reduceEqDiff, reduceAdd, reduceSub, reduceMul, reduceLeDiff, reduceLT, Nat.reduceBEq, reduceIte]) ?_
   apply obindE h; intro x29 hx30 h
   try simp only [go_sem, reduceEqDiff, reduceAdd, reduceSub, reduceMul, reduceLeDiff, reduceLT, Nat.reduceBEq, reduceIte, (idx_some hx24).1, (idx_some hx24).2, (idx_some hx30).1, (idx_some hx30).2]
   apply obindE h; intro r31 hx32 h
   have hc := nx (tree_Copy_ok (h := hx32))
   refine pcallK_intro hc (by simp only [go_sem, reduceEqDiff, reduceAdd, reduceSub, reduceMul, reduceLeDiff, reduceLT, Nat.reduceBEq, reduceIte]) ?_
   try simp only [go_sem, reduceEqDiff, reduceAdd, reduceSub, reduceMul, reduceLeDiff, reduceLT, Nat.reduceBEq, reduceIte, (idx_some hx24).1, (idx_some hx24).2, (idx_some hx30).1, (idx_some hx30).2]
   apply obindE h; intro r33 hx34 h
   have hc := diff_node_ok (h := hx34)
   try simp only [slD, NodeA.enc_eta, RatA.enc_eta, NodeA.op_mk, NodeA.name_mk, NodeA.num_mk, NodeA.kids_mk, aggV, i64V, u32V, strV, List.map_cons, List.map_nil] at hc
   refine pcallK_conv hc ⟨.same _, .d (.dn (.rows ⟨(nilL_eq (by simp only [go_sem, reduceEqDiff, reduceAdd, reduceSub, reduceMul, reduceLeDiff, reduceLT, Nat.reduceBEq, reduceIte])), (nilL_eq (by simp only [go_sem, reduceEqDiff, reduceAdd, reduceSub, reduceMul, reduceLeDiff, reduceLT, Nat.reduceBEq, reduceIte])), trivial⟩)), trivial⟩ (by simp only [go_sem, reduceEqDiff, reduceAdd, reduceSub, reduceMul, reduceLeDiff, reduceLT, Nat.reduceBEq, reduceIte]) ?_
   try simp only [go_sem, reduceEqDiff, reduceAdd, reduceSub, reduceMul, reduceLeDiff, reduceLT, Nat.reduceBEq, reduceIte, (idx_some hx24).1, (idx_some hx24).2, (idx_some hx30).1, (idx_some hx30).2]
   apply obindE h; intro r35 hx36 h
   have hc := diff_node_ok (h := hx36)
   try simp only [slD, NodeA.enc_eta, RatA.enc_eta, NodeA.op_mk, NodeA.name_mk, NodeA.num_mk, NodeA.kids_mk, aggV, i64V, u32V, strV, List.map_cons, List.map_nil] at hc
   refine pcallK_conv hc ⟨.same _, .d (.dn (.rows ⟨(nilL_eq (by simp only [go_sem, reduceEqDiff, reduceAdd, reduceSub, reduceMul, reduceLeDiff, reduceLT, Nat.reduceBEq, reduceIte])), (nilL_eq (by simp only [go_sem, reduceEqDiff, reduceAdd, reduceSub, reduceMul, reduceLeDiff, reduceLT, Nat.reduceBEq, reduceIte])), trivial⟩)), trivial⟩ (by simp only [go_sem, reduceEqDiff, reduceAdd, reduceSub, reduceMul, reduceLeDiff, reduceLT, Nat.reduceBEq, reduceIte]) ?_
   try simp only [go_sem, reduceEqDiff, reduceAdd, reduceSub, reduceMul, reduceLeDiff, reduceLT, Nat.reduceBEq, reduceIte, (idx_some hx24).1, (idx_some hx24).2, (idx_some hx30).1, (idx_some hx30).2]
   refine splitK_intro (fun hb37 => ?_) (fun hb37 => ?_)
   ·have h := ifT hb37 h
    try simp only [go_sem, reduceEqDiff, reduceAdd, reduceSub, reduceMul, reduceLeDiff, reduceLT, Nat.reduceBEq, reduceIte, (idx_some hx24).1, (idx_some hx24).2, (idx_some hx30).1, (idx_some hx30).2, hb37]
    refine AW.ret ?_
    obtain ⟨_, h, ho⟩ := outM_some h
    rw [ho, Out.fin_out] at hJ2
    have h := h.trans hJ2
    obtain rfl := Option.some.inj h
    refine nz ?_
    exact .same _
   have h := ifF hb37 h
   try simp only [go_sem, reduceEqDiff, reduceAdd, reduceSub, reduceMul, reduceLeDiff, reduceLT, Nat.reduceBEq, reduceIte, (idx_some hx24).1, (idx_some hx24).2, (idx_some hx30).1, (idx_some hx30).2, hb37]
   refine AW.ret ?_
   obtain ⟨_, h, ho⟩ := outM_some h
   rw [ho, Out.fin_out] at hJ2
   have h := h.trans hJ2
   obtain rfl := Option.some.inj h
   refine nz ?_
   exact .same _
  have h := ifF hb18 h
  refine AW.op mixed ?_
  refine AW.kp [0, 1] [1, 2, 4, 5, 22, 85] ?_
  refine AW.ts (p0.op == (8 : Int)) (fun hb38 => ?_) (fun hb38 => ?_)
  ·have h := ifT hb38 h
   refine AW.op mixed ?_
   apply obindE h; intro r39 hx40 h
   have hc := nx (hself48 _ _ hx40)
   refine callP hc ?_
   refine AW.kp [0, 7] [1, 2, 12, 13] ?_
   refine AW.one ?_
   refine AW.reg mixed (by kernel_rfl) ?_
   apply obindE h; intro x41 hx42 h
   try simp only [go_sem, reduceEqDiff, reduceAdd, reduceSub, reduceMul, reduceLeDiff, reduceLT, Nat.reduceBEq, reduceIte, (idx_some hx42).1, (idx_some hx42).2]
   apply obindE h; intro r43 hx44 h
   have hc := nx (tree_Copy_ok (h := hx44))
   refine pcallK_intro hc (by simp only [go_sem, reduceEqDiff, reduceAdd, reduceSub, reduceMul, reduceLeDiff, reduceLT, Nat.reduceBEq, reduceIte]) ?_
   try simp only [go_sem, reduceEqDiff, reduceAdd, reduceSub, reduceMul, reduceLeDiff, reduceLT, Nat.reduceBEq, reduceIte, (idx_some hx42).1, (idx_some hx42).2]
   apply obindE h; intro r45 hx46 h
   have hc := diff_node_ok (h := hx46)
   try simp only [slD, NodeA.enc_eta, RatA.enc_eta, NodeA.op_mk, NodeA.name_mk, NodeA.num_mk, NodeA.kids_mk, aggV, i64V, u32V, strV, List.map_cons, List.map_nil] at hc
   refine pcallK_conv hc ⟨.same _, .d (.dn (.rows ⟨(nilL_eq (by simp only [go_sem, reduceEqDiff, reduceAdd, reduceSub, reduceMul, reduceLeDiff, reduceLT, Nat.reduceBEq, reduceIte])), (nilL_eq (by simp only [go_sem, reduceEqDiff, reduceAdd, reduceSub, reduceMul, reduceLeDiff, reduceLT, Nat.reduceBEq, reduceIte])), trivial⟩)), trivial⟩ (by simp only [go_sem, reduceEqDiff, reduceAdd, reduceSub, reduceMul, reduceLeDiff, reduceLT, Nat.reduceBEq, reduceIte]) ?_
   try simp only [go_sem, reduceEqDiff, reduceAdd, reduceSub, reduceMul, reduceLeDiff, reduceLT, Nat.reduceBEq, reduceIte, (idx_some hx42).1, (idx_some hx42).2]
   refine AW.ret ?_
   obtain ⟨_, h, ho⟩ := outM_some h
   rw [ho, Out.fin_out] at hJ2
   have h := h.trans hJ2
   obtain rfl := Option.some.inj h
   refine nz ?_
   exact .same _
  have h := ifF hb38 h
  refine AW.op mixed ?_
  refine AW.kp [0, 1] [1, 2, 4, 5, 22, 101] ?_
  refine AW.ts (p0.op == (9 : Int)) (fun hb47 => ?_) (fun hb47 => ?_)
  ·have h := ifT hb47 h
   refine AW.op mixed ?_
   refine AW.kp [0, 1] [1, 2, 4, 14] ?_
   refine AW.one ?_
   refine obindE h fun oJ49 h hJ49 => ?_
   refine AW.join (S := Int) (fun v48_0 => [(1, .iptr [.val (.int .i64 p0.op), .val (.string p0.name), .val (.bool p0.num.neg), slD u32V p0.num.num, slD u32V p0.num.den, slD NodeA.enc p0.kids]), (2, .ptr 0 6 0 0), (4, .ptr 1 1 0 0), (14, .d (.val (.int .u32 v48_0)))]) (fun v48_0 => [some ⟨6, [[.d (.val (.int .i64 (0 : Int))), .d (.val (.string (⟨#[]⟩ : ByteArray))), .d (.val (.bool false)), .d (.val (.slice none 0 0)), .d (.val (.slice none 0 0)), .d (.val (.slice none 0 0))]]⟩, some ⟨1, [[.fn 48 [.iptr [.val (.int .i64 p0.op), .val (.string p0.name), .val (.bool p0.num.neg), slD u32V p0.num.num, slD u32V p0.num.den, slD NodeA.enc p0.kids]]]]⟩]) (fun x => x = oJ49) ?_ ?_
   ·skip
    refine AW.one ?_
    refine AW.reg mixed (by kernel_rfl) ?_
    apply obindE h; intro x50 hx51 h
    try simp only [go_sem, reduceEqDiff, reduceAdd, reduceSub, reduceMul, reduceLeDiff, reduceLT, Nat.reduceBEq, reduceIte, (idx_some hx51).1, (idx_some hx51).2]
    refine AW.cut [0, 1] [(1, .iptr [.val (.int .i64 p0.op), .val (.string p0.name), .val (.bool p0.num.neg), slD u32V p0.num.num, slD u32V p0.num.den, slD NodeA.enc p0.kids]), (2, .ptr 0 6 0 0), (4, .ptr 1 1 0 0), (14, .d (.val (.int .u32 (0 : Int)))), (15, .d (slD u32V x50.num.num))] [some ⟨6, [[.d (.val (.int .i64 (0 : Int))), .d (.val (.string (⟨#[]⟩ : ByteArray))), .d (.val (.bool false)), .d (.val (.slice none 0 0)), .d (.val (.slice none 0 0)), .d (.val (.slice none 0 0))]]⟩, some ⟨1, [[.fn 48 [.iptr [.val (.int .i64 p0.op), .val (.string p0.name), .val (.bool p0.num.neg), slD u32V p0.num.num, slD u32V p0.num.den, slD NodeA.enc p0.kids]]]]⟩] (by simp only [go_sem, reduceEqDiff, reduceAdd, reduceSub, reduceMul, reduceLeDiff, reduceLT, Nat.reduceBEq, reduceIte, (idx_some hx51).1, (idx_some hx51).2]) ?_
    refine AW.op mixed ?_
    refine AW.kp [0, 1] [1, 2, 4, 14, 15, 111] ?_
    refine AW.ts (decide ((0 : Int) < (x50.num.num.length : Int))) (fun hb52 => ?_) (fun hb52 => ?_)
    ·have h := ifT hb52 h
     refine AW.reg mixed (by kernel_rfl) ?_
     apply obindE h; intro x53 hx54 h
     try simp only [go_sem, reduceEqDiff, reduceAdd, reduceSub, reduceMul, reduceLeDiff, reduceLT, Nat.reduceBEq, reduceIte, (idx_some hx54).1, (idx_some hx54).2]
     refine JoinQ.mk x53 [0, 1] (Option.some.inj h) (by simp only [go_sem, reduceEqDiff, reduceAdd, reduceSub, reduceMul, reduceLeDiff, reduceLT, Nat.reduceBEq, reduceIte, (idx_some hx54).1, (idx_some hx54).2])
    have h := ifF hb52 h
    refine AW.sk ?_
    exact JoinQ.ar (0 : Int) [0, 1] (Option.some.inj h)
   rintro v48_0 rfl
   have h := hJ49
   try dsimp only [Out.fin] at h
   refine nz ?_
   refine AW.op mixed ?_
   apply obindE h; intro r55 hx56 h
   have hc := nx (hself48 _ _ hx56)
   refine callP hc ?_
   refine AW.kp [0, 7] [1, 2, 14, 16, 17] ?_
   refine AW.one ?_
   refine AW.op mixed ?_
   refine AW.kp [0, 1] [1, 2, 14, 16, 17, 120] ?_
   refine AW.block ?_
   refine AW.op mixed ?_
   refine AW.kp [0, 1] [1, 2, 14, 16, 17, 120, 121] ?_
   refine AW.ts (v48_0 == (0 : Int)) (fun hb57 => ?_) (fun hb57 => ?_)
   ·have h := ifT hb57 h
    refine AW.op mixed ?_
    apply obindE h; intro r58 hx59 h
    have hc := nx (diff_number_ok (h := hx59))
    refine callP hc ?_
    refine AW.ret ?_
    obtain ⟨_, h, ho⟩ := outM_some h
    rw [ho, Out.fin_out] at hJ2
    have h := h.trans hJ2
    obtain rfl := Option.some.inj h
    refine nz ?_
    exact .same _
   have h := ifF hb57 h
   refine AW.op mixed ?_
   refine AW.kp [0, 1] [1, 2, 14, 16, 17, 125] ?_
   refine AW.ts (v48_0 == (1 : Int)) (fun hb60 => ?_) (fun hb60 => ?_)
   ·have h := ifT hb60 h
    refine AW.op mixed ?_
    refine AW.ret ?_
    obtain ⟨_, h, ho⟩ := outM_some h
    rw [ho, Out.fin_out] at hJ2
    have h := h.trans hJ2
    obtain rfl := Option.some.inj h
    refine nz ?_
    exact .same _
   have h := ifF hb60 h
   refine AW.sk ?_
   refine AW.kp [0, 1] [1, 2, 14, 16, 17] ?_
   refine AW.one ?_
   refine AW.reg mixed (by kernel_rfl) ?_
   apply obindE h; intro x61 hx62 h
   try simp only [go_sem, reduceEqDiff, reduceAdd, reduceSub, reduceMul, reduceLeDiff, reduceLT, Nat.reduceBEq, reduceIte, (idx_some hx62).1, (idx_some hx62).2]
   apply obindE h; intro r63 hx64 h
   have hc := nx (tree_Copy_ok (h := hx64))
   refine callK_pure hc (by simp only [go_sem, reduceEqDiff, reduceAdd, reduceSub, reduceMul, reduceLeDiff, reduceLT, Nat.reduceBEq, reduceIte]) ?_
   try simp only [go_sem, reduceEqDiff, reduceAdd, reduceSub, reduceMul, reduceLeDiff, reduceLT, Nat.reduceBEq, reduceIte, (idx_some hx62).1, (idx_some hx62).2]
   apply obindE h; intro r65 hx66 h
   have hc := nx (diff_number_ok (h := hx66))
   refine callK_pure hc (by simp only [go_sem, reduceEqDiff, reduceAdd, reduceSub, reduceMul, reduceLeDiff, reduceLT, Nat.reduceBEq, reduceIte]) ?_
   try simp only [go_sem, reduceEqDiff, reduceAdd, reduceSub, reduceMul, reduceLeDiff, reduceLT, Nat.reduceBEq, reduceIte, (idx_some hx62).1, (idx_some hx62).2]
   apply obindE h; intro r67 hx68 h
   have hc := diff_node_ok (h := hx68)
   try simp only [slD, NodeA.enc_eta, RatA.enc_eta, NodeA.op_mk, NodeA.name_mk, NodeA.num_mk, NodeA.kids_mk, aggV, i64V, u32V, strV, List.map_cons, List.map_nil] at hc
   refine callK_conv hc ⟨.same _, .d (.dn (.rows ⟨(nilL_eq (by simp only [go_sem, reduceEqDiff, reduceAdd, reduceSub, reduceMul, reduceLeDiff, reduceLT, Nat.reduceBEq, reduceIte])), (nilL_eq (by simp only [go_sem, reduceEqDiff, reduceAdd, reduceSub, reduceMul, reduceLeDiff, reduceLT, Nat.reduceBEq, reduceIte])), trivial⟩)), trivial⟩ (by simp only [go_sem, reduceEqDiff, reduceAdd, reduceSub, reduceMul, reduceLeDiff, reduceLT, Nat.reduceBEq, reduceIte]) ?_
   try simp only [go_sem, reduceEqDiff, reduceAdd, reduceSub, reduceMul, reduceLeDiff, reduceLT, Nat.reduceBEq, reduceIte, (idx_some hx62).1, (idx_some hx62).2]
   refine AW.cut [0, 1, 12] [(2, .ptr 0 6 0 0), (14, .d (.val (.int .u32 v48_0))), (16, .ptr 1 6 0 0), (17, .d (.val (.bool r55.2))), (18, .ptr 2 6 0 0)] [some ⟨6, [[.d (.val (.int .i64 (0 : Int))), .d (.val (.string (⟨#[]⟩ : ByteArray))), .d (.val (.bool false)), .d (.val (.slice none 0 0)), .d (.val (.slice none 0 0)), .d (.val (.slice none 0 0))]]⟩, some ⟨6, [[.d (.val (.int .i64 r55.1.op)), .d (.val (.string r55.1.name)), .d (.val (.bool r55.1.num.neg)), .d (slD u32V r55.1.num.num), .d (slD u32V r55.1.num.den), .d (slD NodeA.enc r55.1.kids)]]⟩, some ⟨6, [[.d (.val (.int .i64 r67.op)), .d (.val (.string r67.name)), .d (.val (.bool r67.num.neg)), .d (slD u32V r67.num.num), .d (slD u32V r67.num.den), .d (slD NodeA.enc r67.kids)]]⟩] (by simp only [go_sem, reduceEqDiff, reduceAdd, reduceSub, reduceMul, reduceLeDiff, reduceLT, Nat.reduceBEq, reduceIte, (idx_some hx62).1, (idx_some hx62).2]) ?_
   refine AW.op mixed ?_
   apply obindE h; intro r69 hx70 h
   have hc := nx (diff_number_ok (h := hx70))
   refine callD hc ?_
   apply obindE h; intro r71 hx72 h
   have hc := diff_node_ok (h := hx72)
   try simp only [slD, NodeA.enc_eta, RatA.enc_eta, NodeA.op_mk, NodeA.name_mk, NodeA.num_mk, NodeA.kids_mk, aggV, i64V, u32V, strV, List.map_cons, List.map_nil] at hc
   refine pcallK_conv hc ⟨.same _, .d (.dn (.rows ⟨(nilL_eq (by simp only [go_sem, reduceEqDiff, reduceAdd, reduceSub, reduceMul, reduceLeDiff, reduceLT, Nat.reduceBEq, reduceIte])), (nilL_eq (by simp only [go_sem, reduceEqDiff, reduceAdd, reduceSub, reduceMul, reduceLeDiff, reduceLT, Nat.reduceBEq, reduceIte])), trivial⟩)), trivial⟩ (by simp only [go_sem, reduceEqDiff, reduceAdd, reduceSub, reduceMul, reduceLeDiff, reduceLT, Nat.reduceBEq, reduceIte]) ?_
   try simp only [go_sem, reduceEqDiff, reduceAdd, reduceSub, reduceMul, reduceLeDiff, reduceLT, Nat.reduceBEq, reduceIte]
   apply obindE h; intro r73 hx74 h
   have hc := diff_node_ok (h := hx74)
   try simp only [slD, NodeA.enc_eta, RatA.enc_eta, NodeA.op_mk, NodeA.name_mk, NodeA.num_mk, NodeA.kids_mk, aggV, i64V, u32V, strV, List.map_cons, List.map_nil] at hc
   refine pcallK_conv hc ⟨.same _, .d (.dn (.rows ⟨(nilL_eq (by simp only [go_sem, reduceEqDiff, reduceAdd, reduceSub, reduceMul, reduceLeDiff, reduceLT, Nat.reduceBEq, reduceIte])), (nilL_eq (by simp only [go_sem, reduceEqDiff, reduceAdd, reduceSub, reduceMul, reduceLeDiff, reduceLT, Nat.reduceBEq, reduceIte])), trivial⟩)), trivial⟩ (by simp only [go_sem, reduceEqDiff, reduceAdd, reduceSub, reduceMul, reduceLeDiff, reduceLT, Nat.reduceBEq, reduceIte]) ?_
   try simp only [go_sem, reduceEqDiff, reduceAdd, reduceSub, reduceMul, reduceLeDiff, reduceLT, Nat.reduceBEq, reduceIte]
   refine AW.ret ?_
   obtain ⟨_, h, ho⟩ := outM_some h
   rw [ho, Out.fin_out] at hJ2
   have h := h.trans hJ2
   obtain rfl := Option.some.inj h
   refine nz ?_
   exact .same _
  have h := ifF hb47 h
  refine AW.op mixed ?_
  refine AW.kp [0, 1] [1, 2, 5, 22, 148] ?_
  refine AW.ts (p0.op == (10 : Int)) (fun hb75 => ?_) (fun hb75 => ?_)
  ·have h := ifT hb75 h
   refine AW.one ?_
   refine AW.reg4 (q := 5) (tq := 2) (ts := [151]) mixed (by kernel_rfl) ?_
   try simp only [go_sem, reduceEqDiff, reduceAdd, reduceSub, reduceMul, reduceLeDiff, reduceLT, Nat.reduceBEq, reduceIte]
   apply obindE h; intro r76 hx77 h
   have hc := nx (diff_number_ok (h := hx77))
   refine callD hc ?_
   refine AW.ret ?_
   obtain ⟨_, h, ho⟩ := outM_some h
   rw [ho, Out.fin_out] at hJ2
   have h := h.trans hJ2
   obtain rfl := Option.some.inj h
   refine nz ?_
   exact .same _
  have h := ifF hb75 h
  refine AW.op mixed ?_
  refine AW.kp [0, 1] [1, 2, 5, 22, 155] ?_
  refine AW.ts (p0.op == (11 : Int)) (fun hb78 => ?_) (fun hb78 => ?_)
  ·have h := ifT hb78 h
   refine AW.op mixed ?_
   apply obindE h; intro r79 hx80 h
   have hc := nx (tree_Copy_ok (h := hx80))
   refine callP hc ?_
   apply obindE h; intro r81 hx82 h
   have hc := diff_node_ok (h := hx82)
   try simp only [slD, NodeA.enc_eta, RatA.enc_eta, NodeA.op_mk, NodeA.name_mk, NodeA.num_mk, NodeA.kids_mk, aggV, i64V, u32V, strV, List.map_cons, List.map_nil] at hc
   refine callK_conv hc ⟨.same _, .d (.dn (.rows ⟨(nilL_eq (by simp only [go_sem, reduceEqDiff, reduceAdd, reduceSub, reduceMul, reduceLeDiff, reduceLT, Nat.reduceBEq, reduceIte])), trivial⟩)), trivial⟩ (by simp only [go_sem, reduceEqDiff, reduceAdd, reduceSub, reduceMul, reduceLeDiff, reduceLT, Nat.reduceBEq, reduceIte]) ?_
   try simp only [go_sem, reduceEqDiff, reduceAdd, reduceSub, reduceMul, reduceLeDiff, reduceLT, Nat.reduceBEq, reduceIte]
   refine AW.ret ?_
   obtain ⟨_, h, ho⟩ := outM_some h
   rw [ho, Out.fin_out] at hJ2
   have h := h.trans hJ2
   obtain rfl := Option.some.inj h
   refine nz ?_
   exact .same _
  have h := ifF hb78 h
  refine AW.one ?_
  refine obindE h fun oJ84 h hJ84 => ?_
  refine AW.join (S := Bool) (fun v83_0 => [(1, .iptr [.val (.int .i64 p0.op), .val (.string p0.name), .val (.bool p0.num.neg), slD u32V p0.num.num, slD u32V p0.num.den, slD NodeA.enc p0.kids]), (2, .ptr 0 6 0 0), (5, .fn 49 [.ptr 1 1 0 0]), (22, .d (.val (.int .i64 p0.op))), (161, .d (.val (.bool v83_0)))]) (fun v83_0 => [some ⟨6, [[.d (.val (.int .i64 (0 : Int))), .d (.val (.string (⟨#[]⟩ : ByteArray))), .d (.val (.bool false)), .d (.val (.slice none 0 0)), .d (.val (.slice none 0 0)), .d (.val (.slice none 0 0))]]⟩, some ⟨1, [[.fn 48 [.iptr [.val (.int .i64 p0.op), .val (.string p0.name), .val (.bool p0.num.neg), slD u32V p0.num.num, slD u32V p0.num.den, slD NodeA.enc p0.kids]]]]⟩]) (fun x => x = oJ84) ?_ ?_
  ·skip
   refine AW.op mixed ?_
   refine AW.kp [0, 1] [1, 2, 5, 22, 161] ?_
   refine AW.ts (p0.op == (20 : Int)) (fun hb85 => ?_) (fun hb85 => ?_)
   ·have h := ifT hb85 h
    refine AW.sk ?_
    exact JoinQ.ar (p0.op == (20 : Int)) [0, 1] (Option.some.inj h)
   have h := ifF hb85 h
   refine AW.rg mixed ?_
   exact JoinQ.ar (p0.op == (21 : Int)) [0, 1] (Option.some.inj h)
  rintro v83_0 rfl
  have h := hJ84
  try dsimp only [Out.fin] at h
  refine nz ?_
  refine AW.ts v83_0 (fun hb86 => ?_) (fun hb86 => ?_)
  ·have h := ifT hb86 h
   refine AW.op mixed ?_
   apply obindE h; intro r87 hx88 h
   have hc := nx (diff_node_ok (h := hx88))
   refine callK_conv hc ⟨.same _, .nil, trivial⟩ (by simp only [go_sem, reduceEqDiff, reduceAdd, reduceSub, reduceMul, reduceLeDiff, reduceLT, Nat.reduceBEq, reduceIte]) ?_
   try simp only [go_sem, reduceEqDiff, reduceAdd, reduceSub, reduceMul, reduceLeDiff, reduceLT, Nat.reduceBEq, reduceIte]
   refine AW.ret ?_
   obtain ⟨_, h, ho⟩ := outM_some h
   rw [ho, Out.fin_out] at hJ2
   have h := h.trans hJ2
   obtain rfl := Option.some.inj h
   refine nz ?_
   exact .same _
  have h := ifF hb86 h
  refine AW.one ?_
  refine obindE h fun oJ90 h hJ90 => ?_
  refine AW.join (S := Bool) (fun v89_0 => [(1, .iptr [.val (.int .i64 p0.op), .val (.string p0.name), .val (.bool p0.num.neg), slD u32V p0.num.num, slD u32V p0.num.den, slD NodeA.enc p0.kids]), (2, .ptr 0 6 0 0), (5, .fn 49 [.ptr 1 1 0 0]), (22, .d (.val (.int .i64 p0.op))), (165, .d (.val (.bool v89_0)))]) (fun v89_0 => [some ⟨6, [[.d (.val (.int .i64 (0 : Int))), .d (.val (.string (⟨#[]⟩ : ByteArray))), .d (.val (.bool false)), .d (.val (.slice none 0 0)), .d (.val (.slice none 0 0)), .d (.val (.slice none 0 0))]]⟩, some ⟨1, [[.fn 48 [.iptr [.val (.int .i64 p0.op), .val (.string p0.name), .val (.bool p0.num.neg), slD u32V p0.num.num, slD u32V p0.num.den, slD NodeA.enc p0.kids]]]]⟩]) (fun x => x = oJ90) ?_ ?_
  ·skip
   refine AW.op mixed ?_
   refine AW.kp [0, 1] [1, 2, 5, 22, 165] ?_
   refine AW.ts (p0.op == (22 : Int)) (fun hb91 => ?_) (fun hb91 => ?_)
   ·have h := ifT hb91 h
    refine AW.sk ?_
    exact JoinQ.ar (p0.op == (22 : Int)) [0, 1] (Option.some.inj h)
   have h := ifF hb91 h
   refine AW.rg mixed ?_
   exact JoinQ.ar (p0.op == (23 : Int)) [0, 1] (Option.some.inj h)
  rintro v89_0 rfl
  have h := hJ90
  try dsimp only [Out.fin] at h
  refine nz ?_
  refine AW.ts v89_0 (fun hb92 => ?_) (fun hb92 => ?_)
  ·have h := ifT hb92 h
   refine AW.op mixed ?_
   apply obindE h; intro r93 hx94 h
   have hc := nx (hself49 _ _ hx94)
   refine callK_loc [1] hc (by simp only [go_sem, reduceEqDiff, reduceAdd, reduceSub, reduceMul, reduceLeDiff, reduceLT, Nat.reduceBEq, reduceIte]) (by simp) (by simp only [go_sem, reduceEqDiff, reduceAdd, reduceSub, reduceMul, reduceLeDiff, reduceLT, Nat.reduceBEq, reduceIte]) ?_
   try simp only [go_sem, reduceEqDiff, reduceAdd, reduceSub, reduceMul, reduceLeDiff, reduceLT, Nat.reduceBEq, reduceIte]
   refine AW.ret ?_
   obtain ⟨_, h, ho⟩ := outM_some h
   rw [ho, Out.fin_out] at hJ2
   have h := h.trans hJ2
   obtain rfl := Option.some.inj h
   refine nz ?_
   exact .same _
  have h := ifF hb92 h
  refine AW.one ?_
  refine obindE h fun oJ96 h hJ96 => ?_
  refine AW.join (S := Bool) (fun v95_0 => [(1, .iptr [.val (.int .i64 p0.op), .val (.string p0.name), .val (.bool p0.num.neg), slD u32V p0.num.num, slD u32V p0.num.den, slD NodeA.enc p0.kids]), (2, .ptr 0 6 0 0), (5, .fn 49 [.ptr 1 1 0 0]), (22, .d (.val (.int .i64 p0.op))), (172, .d (.val (.bool v95_0)))]) (fun v95_0 => [some ⟨6, [[.d (.val (.int .i64 (0 : Int))), .d (.val (.string (⟨#[]⟩ : ByteArray))), .d (.val (.bool false)), .d (.val (.slice none 0 0)), .d (.val (.slice none 0 0)), .d (.val (.slice none 0 0))]]⟩, some ⟨1, [[.fn 48 [.iptr [.val (.int .i64 p0.op), .val (.string p0.name), .val (.bool p0.num.neg), slD u32V p0.num.num, slD u32V p0.num.den, slD NodeA.enc p0.kids]]]]⟩]) (fun x => x = oJ96) ?_ ?_
  ·skip
   refine AW.op mixed ?_
   refine AW.kp [0, 1] [1, 2, 5, 22, 172] ?_
   refine AW.ts (p0.op == (24 : Int)) (fun hb97 => ?_) (fun hb97 => ?_)
   ·have h := ifT hb97 h
    refine AW.sk ?_
    exact JoinQ.ar (p0.op == (24 : Int)) [0, 1] (Option.some.inj h)
   have h := ifF hb97 h
   refine AW.rg mixed ?_
   exact JoinQ.ar (p0.op == (25 : Int)) [0, 1] (Option.some.inj h)
  rintro v95_0 rfl
  have h := hJ96
  try dsimp only [Out.fin] at h
  refine nz ?_
  refine AW.ts v95_0 (fun hb98 => ?_) (fun hb98 => ?_)
  ·have h := ifT hb98 h
   refine AW.op mixed ?_
   apply obindE h; intro r99 hx100 h
   have hc := nx (hself49 _ _ hx100)
   refine callK_loc [1] hc (by simp only [go_sem, reduceEqDiff, reduceAdd, reduceSub, reduceMul, reduceLeDiff, reduceLT, Nat.reduceBEq, reduceIte]) (by simp) (by simp only [go_sem, reduceEqDiff, reduceAdd, reduceSub, reduceMul, reduceLeDiff, reduceLT, Nat.reduceBEq, reduceIte]) ?_
   try simp only [go_sem, reduceEqDiff, reduceAdd, reduceSub, reduceMul, reduceLeDiff, reduceLT, Nat.reduceBEq, reduceIte]
   refine AW.ret ?_
   obtain ⟨_, h, ho⟩ := outM_some h
   rw [ho, Out.fin_out] at hJ2
   have h := h.trans hJ2
   obtain rfl := Option.some.inj h
   refine nz ?_
   exact .same _
  have h := ifF hb98 h
  refine AW.one ?_
  refine obindE h fun oJ102 h hJ102 => ?_
  refine AW.join (S := Bool) (fun v101_0 => [(1, .iptr [.val (.int .i64 p0.op), .val (.string p0.name), .val (.bool p0.num.neg), slD u32V p0.num.num, slD u32V p0.num.den, slD NodeA.enc p0.kids]), (2, .ptr 0 6 0 0), (5, .fn 49 [.ptr 1 1 0 0]), (22, .d (.val (.int .i64 p0.op))), (179, .d (.val (.bool v101_0)))]) (fun v101_0 => [some ⟨6, [[.d (.val (.int .i64 (0 : Int))), .d (.val (.string (⟨#[]⟩ : ByteArray))), .d (.val (.bool false)), .d (.val (.slice none 0 0)), .d (.val (.slice none 0 0)), .d (.val (.slice none 0 0))]]⟩, some ⟨1, [[.fn 48 [.iptr [.val (.int .i64 p0.op), .val (.string p0.name), .val (.bool p0.num.neg), slD u32V p0.num.num, slD u32V p0.num.den, slD NodeA.enc p0.kids]]]]⟩]) (fun x => x = oJ102) ?_ ?_
  ·skip
   refine AW.op mixed ?_
   refine AW.kp [0, 1] [1, 2, 5, 22, 179] ?_
   refine AW.ts (p0.op == (26 : Int)) (fun hb103 => ?_) (fun hb103 => ?_)
   ·have h := ifT hb103 h
    refine AW.sk ?_
    exact JoinQ.ar (p0.op == (26 : Int)) [0, 1] (Option.some.inj h)
   have h := ifF hb103 h
   refine AW.rg mixed ?_
   exact JoinQ.ar (p0.op == (27 : Int)) [0, 1] (Option.some.inj h)
  rintro v101_0 rfl
  have h := hJ102
  try dsimp only [Out.fin] at h
  refine nz ?_
  refine AW.ts v101_0 (fun hb104 => ?_) (fun hb104 => ?_)
  ·have h := ifT hb104 h
   refine AW.op mixed ?_
   apply obindE h; intro r105 hx106 h
   have hc := nx (hself49 _ _ hx106)
   refine callK_loc [1] hc (by simp only [go_sem, reduceEqDiff, reduceAdd, reduceSub, reduceMul, reduceLeDiff, reduceLT, Nat.reduceBEq, reduceIte]) (by simp) (by simp only [go_sem, reduceEqDiff, reduceAdd, reduceSub, reduceMul, reduceLeDiff, reduceLT, Nat.reduceBEq, reduceIte]) ?_
   try simp only [go_sem, reduceEqDiff, reduceAdd, reduceSub, reduceMul, reduceLeDiff, reduceLT, Nat.reduceBEq, reduceIte]
   refine AW.ret ?_
   obtain ⟨_, h, ho⟩ := outM_some h
   rw [ho, Out.fin_out] at hJ2
   have h := h.trans hJ2
   obtain rfl := Option.some.inj h
   refine nz ?_
   exact .same _
  have h := ifF hb104 h
  refine AW.one ?_
  refine obindE h fun oJ108 h hJ108 => ?_
  refine AW.join (S := Bool) (fun v107_0 => [(1, .iptr [.val (.int .i64 p0.op), .val (.string p0.name), .val (.bool p0.num.neg), slD u32V p0.num.num, slD u32V p0.num.den, slD NodeA.enc p0.kids]), (2, .ptr 0 6 0 0), (5, .fn 49 [.ptr 1 1 0 0]), (22, .d (.val (.int .i64 p0.op))), (186, .d (.val (.bool v107_0)))]) (fun v107_0 => [some ⟨6, [[.d (.val (.int .i64 (0 : Int))), .d (.val (.string (⟨#[]⟩ : ByteArray))), .d (.val (.bool false)), .d (.val (.slice none 0 0)), .d (.val (.slice none 0 0)), .d (.val (.slice none 0 0))]]⟩, some ⟨1, [[.fn 48 [.iptr [.val (.int .i64 p0.op), .val (.string p0.name), .val (.bool p0.num.neg), slD u32V p0.num.num, slD u32V p0.num.den, slD NodeA.enc p0.kids]]]]⟩]) (fun x => x = oJ108) ?_ ?_
  ·skip
   refine AW.op mixed ?_
   refine AW.kp [0, 1] [1, 2, 5, 22, 186] ?_
   refine AW.ts (p0.op == (29 : Int)) (fun hb109 => ?_) (fun hb109 => ?_)
   ·have h := ifT hb109 h
    refine AW.sk ?_
    exact JoinQ.ar (p0.op == (29 : Int)) [0, 1] (Option.some.inj h)
   have h := ifF hb109 h
   refine AW.rg mixed ?_
   exact JoinQ.ar (p0.op == (30 : Int)) [0, 1] (Option.some.inj h)
  rintro v107_0 rfl
  have h := hJ108
  try dsimp only [Out.fin] at h
  refine nz ?_
  refine AW.ts v107_0 (fun hb110 => ?_) (fun hb110 => ?_)
  ·have h := ifT hb110 h
   refine AW.op mixed ?_
   apply obindE h; intro r111 hx112 h
   have hc := nx (hself49 _ _ hx112)
   refine callK_loc [1] hc (by simp only [go_sem, reduceEqDiff, reduceAdd, reduceSub, reduceMul, reduceLeDiff, reduceLT, Nat.reduceBEq, reduceIte]) (by simp) (by simp only [go_sem, reduceEqDiff, reduceAdd, reduceSub, reduceMul, reduceLeDiff, reduceLT, Nat.reduceBEq, reduceIte]) ?_
   try simp only [go_sem, reduceEqDiff, reduceAdd, reduceSub, reduceMul, reduceLeDiff, reduceLT, Nat.reduceBEq, reduceIte]
   refine AW.ret ?_
   obtain ⟨_, h, ho⟩ := outM_some h
   rw [ho, Out.fin_out] at hJ2
   have h := h.trans hJ2
   obtain rfl := Option.some.inj h
   refine nz ?_
   exact .same _
  have h := ifF hb110 h
  refine AW.op mixed ?_
  refine AW.kp [0] [1, 2, 193] ?_
  refine AW.ts (p0.op == (38 : Int)) (fun hb113 => ?_) (fun hb113 => ?_)
  ·have h := ifT hb113 h
   refine AW.op mixed ?_
   apply obindE h; intro r114 hx115 h
   have hc := nx (tree_Copy_ok (h := hx115))
   refine callP hc ?_
   apply obindE h; intro r116 hx117 h
   have hc := diff_node_ok (h := hx117)
   try simp only [slD, NodeA.enc_eta, RatA.enc_eta, NodeA.op_mk, NodeA.name_mk, NodeA.num_mk, NodeA.kids_mk, aggV, i64V, u32V, strV, List.map_cons, List.map_nil] at hc
   refine callK_conv hc ⟨.same _, .d (.dn (.rows ⟨(nilL_eq (by simp only [go_sem, reduceEqDiff, reduceAdd, reduceSub, reduceMul, reduceLeDiff, reduceLT, Nat.reduceBEq, reduceIte])), trivial⟩)), trivial⟩ (by simp only [go_sem, reduceEqDiff, reduceAdd, reduceSub, reduceMul, reduceLeDiff, reduceLT, Nat.reduceBEq, reduceIte]) ?_
   try simp only [go_sem, reduceEqDiff, reduceAdd, reduceSub, reduceMul, reduceLeDiff, reduceLT, Nat.reduceBEq, reduceIte]
   refine AW.ret ?_
   obtain ⟨_, h, ho⟩ := outM_some h
   rw [ho, Out.fin_out] at hJ2
   have h := h.trans hJ2
   obtain rfl := Option.some.inj h
   refine nz ?_
   exact .same _
  have h := ifF hb113 h
  refine AW.sk ?_
  exact JoinQ.ar () [0] (Option.some.inj h).symm
 rintro ⟨⟩ rfl
 have h := hJ2
 try dsimp only [Out.fin] at h
 refine nz ?_
 refine AW.op mixed ?_
 refine AW.ret ?_
 obtain rfl := Option.some.inj h
 refine nz ?_
 exact .tupL ⟨.aggL ⟨.same _, .same _, .same _, .nil, .nil, .nil, trivial⟩, .same _, trivial⟩
/-! ### isochrone/diff.of$1 -/
def diff_of_1_body (K : Nat) (self23 : NodeA → Option (NodeA × Bool)) (self48 : (Int × NodeA) → Option (NodeA × Bool)) (self49 : (Int × NodeA) → Option (NodeA × Bool)) (p0 : Int) (p1 : NodeA) : Option (NodeA × Bool) := (idx p1.kids p0).bind fun x1 =>
 (self23 (x1)).bind fun r3 =>
 some (r3.1, r3.2)
set_option maxHeartbeats 4000000 in
theorem diff_of_1_step (K : Nat) (self23 : NodeA → Option (NodeA × Bool)) (self48 : (Int × NodeA) → Option (NodeA × Bool)) (self49 : (Int × NodeA) → Option (NodeA × Bool)) (hself23 : ∀ (q : NodeA) (r : NodeA × Bool), self23 q = some r → Cn Tryz.prog 23 [aggV q.enc] (.tup [aggV r.1.enc, .d (.val (.bool r.2))])) (hself48 : ∀ (q : Int × NodeA) (r : NodeA × Bool), self48 q = some r → Cn Tryz.prog 48 [.d (.val (.int .i64 q.1)), .iptr [.val (.int .i64 q.2.op), .val (.string q.2.name), .val (.bool q.2.num.neg), slD u32V q.2.num.num, slD u32V q.2.num.den, slD NodeA.enc q.2.kids]] (.tup [aggV r.1.enc, .d (.val (.bool r.2))])) (hself49 : ∀ (q : Int × NodeA) (r : NodeA × Bool), self49 q = some r → Cl Tryz.prog 49 [.d (.val (.int .i64 q.1)), .ptr 0 1 0 0] [⟨1, [[.fn 48 [.iptr [.val (.int .i64 q.2.op), .val (.string q.2.name), .val (.bool q.2.num.neg), slD u32V q.2.num.num, slD u32V q.2.num.den, slD NodeA.enc q.2.kids]]]]⟩] (.tup [aggV r.1.enc, .d (.val (.bool r.2))]) [⟨1, [[.fn 48 [.iptr [.val (.int .i64 q.2.op), .val (.string q.2.name), .val (.bool q.2.num.neg), slD u32V q.2.num.num, slD u32V q.2.num.den, slD NodeA.enc q.2.kids]]]]⟩]) (p0 : Int) (p1 : NodeA) (r : NodeA × Bool) (h : diff_of_1_body K self23 self48 self49 p0 p1 = some r) : Cn Tryz.prog 48 [.d (.val (.int .i64 p0)), .iptr [.val (.int .i64 p1.op), .val (.string p1.name), .val (.bool p1.num.neg), slD u32V p1.num.num, slD u32V p1.num.den, slD NodeA.enc p1.kids]] (.tup [aggV r.1.enc, .d (.val (.bool r.2))]) := by
 refine Cn.oz Tryz.func48 Tryz.call48 Tryz.ntmps48 Tryz.results48 fun hfit => ?_
 unfold diff_of_1_body at h
 refine AW.kr [] [0, 1] ?_
 refine AW.kr [0] [0, 1, 3] ?_
 refine bx h fun x1 h0 h1 h => ?_
 refine cm h (hself23 _ _) fun r3 hx4 h => ?_
 refine AW.ret ?_
 cases h; refine nz ?_; exact .same _
/-! ### isochrone/diff.of$2 -/
def diff_of_2_body (K : Nat) (self23 : NodeA → Option (NodeA × Bool)) (self48 : (Int × NodeA) → Option (NodeA × Bool)) (self49 : (Int × NodeA) → Option (NodeA × Bool)) (p0 : Int) (p1 : NodeA) : Option (NodeA × Bool) := (self48 ((0 : Int), p1)).bind fun r1 =>
 (self48 ((1 : Int), p1)).bind fun r3 =>
 (diff_node K p0 [r1.1, r3.1]).bind fun r5 =>
 if r1.2 then
  some (r5, r3.2)
 else
  some (r5, false)
set_option maxHeartbeats 4000000 in
theorem diff_of_2_step (K : Nat) (self23 : NodeA → Option (NodeA × Bool)) (self48 : (Int × NodeA) → Option (NodeA × Bool)) (self49 : (Int × NodeA) → Option (NodeA × Bool)) (hself23 : ∀ (q : NodeA) (r : NodeA × Bool), self23 q = some r → Cn Tryz.prog 23 [aggV q.enc] (.tup [aggV r.1.enc, .d (.val (.bool r.2))])) (hself48 : ∀ (q : Int × NodeA) (r : NodeA × Bool), self48 q = some r → Cn Tryz.prog 48 [.d (.val (.int .i64 q.1)), .iptr [.val (.int .i64 q.2.op), .val (.string q.2.name), .val (.bool q.2.num.neg), slD u32V q.2.num.num, slD u32V q.2.num.den, slD NodeA.enc q.2.kids]] (.tup [aggV r.1.enc, .d (.val (.bool r.2))])) (hself49 : ∀ (q : Int × NodeA) (r : NodeA × Bool), self49 q = some r → Cl Tryz.prog 49 [.d (.val (.int .i64 q.1)), .ptr 0 1 0 0] [⟨1, [[.fn 48 [.iptr [.val (.int .i64 q.2.op), .val (.string q.2.name), .val (.bool q.2.num.neg), slD u32V q.2.num.num, slD u32V q.2.num.den, slD NodeA.enc q.2.kids]]]]⟩] (.tup [aggV r.1.enc, .d (.val (.bool r.2))]) [⟨1, [[.fn 48 [.iptr [.val (.int .i64 q.2.op), .val (.string q.2.name), .val (.bool q.2.num.neg), slD u32V q.2.num.num, slD u32V q.2.num.den, slD NodeA.enc q.2.kids]]]]⟩]) (p0 : Int) (p1 : NodeA) (r : NodeA × Bool) (h : diff_of_2_body K self23 self48 self49 p0 p1 = some r) : Cl Tryz.prog 49 [.d (.val (.int .i64 p0)), .ptr 0 1 0 0] [⟨1, [[.fn 48 [.iptr [.val (.int .i64 p1.op), .val (.string p1.name), .val (.bool p1.num.neg), slD u32V p1.num.num, slD u32V p1.num.den, slD NodeA.enc p1.kids]]]]⟩] (.tup [aggV r.1.enc, .d (.val (.bool r.2))]) [⟨1, [[.fn 48 [.iptr [.val (.int .i64 p1.op), .val (.string p1.name), .val (.bool p1.num.neg), slD u32V p1.num.num, slD u32V p1.num.den, slD NodeA.enc p1.kids]]]]⟩] := by
 refine Cl.ofA mixed Tryz.func49 rfl Tryz.call49 Tryz.ntmps49 Tryz.results49 (by simp) rfl (by simp only [go_sem, reduceEqDiff, reduceAdd, reduceSub, reduceMul, reduceLeDiff, reduceLT, Nat.reduceBEq, reduceIte, List.length_cons]) (by simp only [go_sem, reduceEqDiff, reduceAdd, reduceSub, reduceMul, reduceLeDiff, reduceLT, Nat.reduceBEq, reduceIte]) (by simp only [go_sem, reduceEqDiff, reduceAdd, reduceSub, reduceMul, reduceLeDiff, reduceLT, Nat.reduceBEq, reduceIte]) (by simp only [go_sem, reduceEqDiff, reduceAdd, reduceSub, reduceMul, reduceLeDiff, reduceLT, Nat.reduceBEq, reduceIte]) fun hfit => ?_
 unfold diff_of_2_body at h
 refine AW.kr [0] [0, 1] ?_
 refine AW.kr [0, 1] [0, 1, 3] ?_
 refine cm h (hself48 _ _) fun r1 hx2 h => ?_
 refine AW.kr [0, 1, 7] [0, 1, 3, 5, 6] ?_
 refine cm h (hself48 _ _) fun r3 hx4 h => ?_
 refine AW.kr [0, 1, 2, 8] [0, 3, 5, 6, 7, 8] ?_
 apply bE h; intro r5 hx6 h
 have hc := diff_node_ok (h := hx6)
 try simp only [slD, NodeA.enc_eta, RatA.enc_eta, NodeA.op_mk, NodeA.name_mk, NodeA.num_mk, NodeA.kids_mk, aggV, i64V, u32V, strV, List.map_cons, List.map_nil] at hc
 refine callK_conv hc ⟨.same _, .d (.dn (.rows ⟨(nilL_eq (by simp only [go_sem, reduceEqDiff, reduceAdd, reduceSub, reduceMul, reduceLeDiff, reduceLT, Nat.reduceBEq, reduceIte])), (nilL_eq (by simp only [go_sem, reduceEqDiff, reduceAdd, reduceSub, reduceMul, reduceLeDiff, reduceLT, Nat.reduceBEq, reduceIte])), trivial⟩)), trivial⟩ (by simp only [go_sem, reduceEqDiff, reduceAdd, reduceSub, reduceMul, reduceLeDiff, reduceLT, Nat.reduceBEq, reduceIte]) ?_
 refine ns ?_
 refine sK h (fun hb7 h => ?_) fun hb7 h => ?_
 ·refine AW.ret ?_
  cases h; refine nz ?_; exact ⟨.same _, ⟨⟨.same _, trivial⟩, trivial⟩⟩
 refine AW.ret ?_
 cases h; refine nz ?_; exact ⟨.same _, ⟨⟨.same _, trivial⟩, trivial⟩⟩
def grp_diff_of (K : Nat) : Nat → (NodeA → Option (NodeA × Bool)) × ((Int × NodeA) → Option (NodeA × Bool)) × ((Int × NodeA) → Option (NodeA × Bool))
 | 0 => (fun _ => none, fun _ => none, fun _ => none)
 | k + 1 => (fun q => diff_of_body K (grp_diff_of K k).1 (grp_diff_of K k).2.1 (grp_diff_of K k).2.2 q, fun q => diff_of_1_body K (grp_diff_of K k).1 (grp_diff_of K k).2.1 (grp_diff_of K k).2.2 q.1 q.2, fun q => diff_of_2_body K (grp_diff_of K k).1 (grp_diff_of K k).2.1 (grp_diff_of K k).2.2 q.1 q.2)
def diff_of (K : Nat) (p0 : NodeA) : Option (NodeA × Bool) := (grp_diff_of K K).1 p0
theorem key_diff_of {K : Nat} (k : Nat) : (∀ (q : NodeA) (r : NodeA × Bool), (grp_diff_of K k).1 q = some r → Cn Tryz.prog 23 [aggV q.enc] (.tup [aggV r.1.enc, .d (.val (.bool r.2))])) ∧ (∀ (q : Int × NodeA) (r : NodeA × Bool), (grp_diff_of K k).2.1 q = some r → Cn Tryz.prog 48 [.d (.val (.int .i64 q.1)), .iptr [.val (.int .i64 q.2.op), .val (.string q.2.name), .val (.bool q.2.num.neg), slD u32V q.2.num.num, slD u32V q.2.num.den, slD NodeA.enc q.2.kids]] (.tup [aggV r.1.enc, .d (.val (.bool r.2))])) ∧ (∀ (q : Int × NodeA) (r : NodeA × Bool), (grp_diff_of K k).2.2 q = some r → Cl Tryz.prog 49 [.d (.val (.int .i64 q.1)), .ptr 0 1 0 0] [⟨1, [[.fn 48 [.iptr [.val (.int .i64 q.2.op), .val (.string q.2.name), .val (.bool q.2.num.neg), slD u32V q.2.num.num, slD u32V q.2.num.den, slD NodeA.enc q.2.kids]]]]⟩] (.tup [aggV r.1.enc, .d (.val (.bool r.2))]) [⟨1, [[.fn 48 [.iptr [.val (.int .i64 q.2.op), .val (.string q.2.name), .val (.bool q.2.num.neg), slD u32V q.2.num.num, slD u32V q.2.num.den, slD NodeA.enc q.2.kids]]]]⟩]) := by
 induction k with
 | zero => exact ⟨(fun q r h => nomatch (show (none : Option _) = some r from h)), (fun q r h => nomatch (show (none : Option _) = some r from h)), (fun q r h => nomatch (show (none : Option _) = some r from h))⟩
 | succ k ih => exact ⟨fun q r h => diff_of_step K _ _ _ ih.1 ih.2.1 ih.2.2 q r h, fun q r h => diff_of_1_step K _ _ _ ih.1 ih.2.1 ih.2.2 q.1 q.2 r h, fun q r h => diff_of_2_step K _ _ _ ih.1 ih.2.1 ih.2.2 q.1 q.2 r h⟩
theorem diff_of_ok {K : Nat} {p0 : NodeA} {r : NodeA × Bool} (h : diff_of K p0 = some r) : Cn Tryz.prog 23 [aggV p0.enc] (.tup [aggV r.1.enc, .d (.val (.bool r.2))]) := (key_diff_of K).1 p0 r h
/-! ### isochrone/tree.Sort -/
def tree_Sort (K : Nat) (p0 : Int) : Option Int := ((
  if (decide ((1 : Int) ≤ p0)) then
   some (decide (p0 ≤ (13 : Int)))
  else
   some false) : Option Bool).bind (fun v1_0 =>
 if v1_0 then
  some (1 : Int)
 else
  ((
   if (decide ((20 : Int) ≤ p0)) then
    some (decide (p0 ≤ (39 : Int)))
   else
    some false) : Option Bool).bind (fun v5_0 =>
  if v5_0 then
   some (2 : Int)
  else
   ((
    if (p0 == (55 : Int)) then
     some true
    else
     some (p0 == (56 : Int))) : Option Bool).bind (fun v9_0 =>
   if v9_0 then
    some (4 : Int)
   else
    ((
     if (decide ((50 : Int) ≤ p0)) then
      some (decide (p0 ≤ (62 : Int)))
     else
      some false) : Option Bool).bind (fun v13_0 =>
    if v13_0 then
     some (3 : Int)
    else
     some (0 : Int)))))
set_option maxHeartbeats 4000000 in
theorem tree_Sort_ok {K : Nat} {p0 : Int} {r : Int} (h : tree_Sort K p0 = some r) : Cn Tryz.prog 21 [.d (.val (.int .i64 p0))] (.d (.val (.int .i64 r))) := by
 refine Cn.oz Tryz.func21 Tryz.call21 Tryz.ntmps21 Tryz.results21 fun hfit => ?_
 unfold tree_Sort at h
 refine AW.kr [] [0] ?_
 refine AW.ks [] [0] ?_
 refine AW.one ?_
 refine AW.block ?_
 refine AW.jn h (fun v1_0 => [(0, vI p0), (3, vB v1_0)]) (fun v1_0 => []) (fun oJ2 h => ?_) fun v1_0 h => ?_
 ·refine AW.rp ?_
  refine sK h (fun hb3 h => ?_) fun hb3 h => ?_
  ·exact ja [] h
  exact ja [] h
 refine AW.tt h (fun hb4 h => ?_) fun hb4 h => ?_
 ·refine AW.ro ?_
  refine AW.ret ?_
  cases h; refine nz ?_; exact .same _
 refine AW.jn h (fun v5_0 => [(0, vI p0), (10, vB v5_0)]) (fun v5_0 => []) (fun oJ6 h => ?_) fun v5_0 h => ?_
 ·refine AW.rp ?_
  refine sK h (fun hb7 h => ?_) fun hb7 h => ?_
  ·exact ja [] h
  exact ja [] h
 refine AW.tt h (fun hb8 h => ?_) fun hb8 h => ?_
 ·refine AW.ro ?_
  refine AW.ret ?_
  cases h; refine nz ?_; exact .same _
 refine AW.jn h (fun v9_0 => [(0, vI p0), (17, vB v9_0)]) (fun v9_0 => []) (fun oJ10 h => ?_) fun v9_0 h => ?_
 ·refine AW.rp ?_
  refine sK h (fun hb11 h => ?_) fun hb11 h => ?_
  ·exact ja [] h
  exact ja [] h
 refine AW.tt h (fun hb12 h => ?_) fun hb12 h => ?_
 ·refine AW.ro ?_
  refine AW.ret ?_
  cases h; refine nz ?_; exact .same _
 refine AW.jn h (fun v13_0 => [(24, vB v13_0)]) (fun v13_0 => []) (fun oJ14 h => ?_) fun v13_0 h => ?_
 ·refine AW.rp ?_
  refine sK h (fun hb15 h => ?_) fun hb15 h => ?_
  ·exact ja [] h
  exact ja [] h
 refine AW.tk h (fun hb16 h => ?_) fun hb16 h => ?_
 ·refine AW.ro ?_
  refine AW.ret ?_
  cases h; refine nz ?_; exact .same _
 refine AW.kr [] [] ?_
 refine AW.ret ?_
 cases h; refine nz ?_; exact .same _
/-! ### isochrone/tree.letter -/
def tree_letter (K : Nat) (p0 : Int) : Option Bool := if (decide ((97 : Int) ≤ p0)) then
  if (decide (p0 ≤ (122 : Int))) then
   some true
  else
   if (decide ((65 : Int) ≤ p0)) then
    some (decide (p0 ≤ (90 : Int)))
   else
    some false
 else
  if (decide ((65 : Int) ≤ p0)) then
   some (decide (p0 ≤ (90 : Int)))
  else
   some false
set_option maxHeartbeats 4000000 in
theorem tree_letter_ok {K : Nat} {p0 : Int} {r : Bool} (h : tree_letter K p0 = some r) : Cn Tryz.prog 123 [.d (.val (.int .u8 p0))] (.d (.val (.bool r))) := by
 refine Cn.oz Tryz.func123 Tryz.call123 Tryz.ntmps123 Tryz.results123 fun hfit => ?_
 unfold tree_letter at h
 refine AW.kr [] [0] ?_
 refine AW.kr [] [0] ?_
 refine sK h (fun hb1 h => ?_) fun hb1 h => ?_
 ·refine sK h (fun hb2 h => ?_) fun hb2 h => ?_
  ·refine AW.ret ?_
   cases h; refine nz ?_; exact .same _
  refine sK h (fun hb3 h => ?_) fun hb3 h => ?_
  ·refine AW.ret ?_
   cases h; refine nz ?_; exact .same _
  refine AW.ret ?_
  cases h; refine nz ?_; exact .same _
 refine sK h (fun hb4 h => ?_) fun hb4 h => ?_
 ·refine AW.ret ?_
  cases h; refine nz ?_; exact .same _
 refine AW.ret ?_
 cases h; refine nz ?_; exact .same _
/-! ### isochrone/tree.Name -/
def tree_Name (K : Nat) (p0 : ByteArray) : Option Bool := ((
  ((
   if ((p0.size : Int) == (0 : Int)) then
    some true
   else
    if (decide ((12 : Int) < (p0.size : Int))) then
     some true
    else
     (strAt p0 (0 : Int)).bind fun c7 =>
     (tree_letter K (c7.toNat : Int)).bind fun r9 =>
     some (!r9)) : Option Bool).bind (fun v3_0 =>
  if v3_0 then
   outM (
    some false)
  else
   some (.go ()))) : Option (Out Unit _)).bind (Out.fin fun _ =>
 ((iter (S := Int) (R := Out Unit _) K (fun again i12_0 =>
  if (decide (i12_0 < (p0.size : Int))) then
   ((
    ((
     (strAt p0 i12_0).bind fun c21 =>
     (tree_letter K (c21.toNat : Int)).bind fun r23 =>
     if (!r23) then
      if (decide ((c21.toNat : Int) < (48 : Int))) then
       some true
      else
       some (decide ((57 : Int) < (c21.toNat : Int)))
     else
      some false) : Option Bool).bind (fun v19_0 =>
    if v19_0 then
     outM (
      outM (
       some false))
    else
     some (.go ()))) : Option (Out Unit _)).bind (Out.fin fun _ =>
   again (IntKind.wrap .i64 (i12_0 + (1 : Int))))
  else
   some (.go ())) (0 : Int)) : Option (Out Unit _)).bind (Out.fin fun _ =>
 ((
  if (p0.toList == (⟨#[116, 114, 117, 101]⟩ : ByteArray).toList) then
   some (p0.toList == (⟨#[116, 114, 117, 101]⟩ : ByteArray).toList)
  else
   if (p0.toList == (⟨#[102, 97, 108, 115, 101]⟩ : ByteArray).toList) then
    some (p0.toList == (⟨#[102, 97, 108, 115, 101]⟩ : ByteArray).toList)
   else
    if (p0.toList == (⟨#[102, 111, 114, 97, 108, 108]⟩ : ByteArray).toList) then
     some (p0.toList == (⟨#[102, 111, 114, 97, 108, 108]⟩ : ByteArray).toList)
    else
     some (p0.toList == (⟨#[101, 120, 105, 115, 116, 115]⟩ : ByteArray).toList)) : Option Bool).bind (fun v28_0 =>
 if v28_0 then
  some false
 else
  some true)))
set_option maxHeartbeats 4000000 in
theorem tree_Name_ok {K : Nat} {p0 : ByteArray} {r : Bool} (h : tree_Name K p0 = some r) : Cn Tryz.prog 87 [.d (.val (.string p0))] (.d (.val (.bool r))) := by
 refine Cn.oz Tryz.func87 Tryz.call87 Tryz.ntmps87 Tryz.results87 fun hfit => ?_
 unfold tree_Name at h
 refine AW.kr [] [0] ?_
 refine AW.ks [] [0] ?_
 refine AW.jo h (fun _ => [(0, vS p0)]) (fun _ => []) (fun oJ2 h hJ2 => ?_) fun ⟨⟩ h => ?_
 ·refine AW.jn h (fun v3_0 => [(0, vS p0), (17, vB v3_0)]) (fun v3_0 => []) (fun oJ4 h => ?_) fun v3_0 h => ?_
  ·refine AW.rp ?_
   refine sK h (fun hb5 h => ?_) fun hb5 h => ?_
   ·exact ja [] h
   refine sK h (fun hb6 h => ?_) fun hb6 h => ?_
   ·exact ja [] h
   refine bb h fun c7 hx8 h => ?_
   refine cm h tree_letter_ok fun r9 hx10 h => ?_
   exact ja [] h
  refine AW.tk h (fun hb11 h => ?_) fun hb11 h => ?_
  ·refine AW.ro ?_
   refine AW.ret ?_
   have h := up h hJ2
   cases h; refine nz ?_; exact .same _
  exact jo [] h
 refine AW.one ?_
 refine AW.ro ?_
 refine AW.ks [] [0, 3] ?_
 refine AW.lp h (fun _ => [(0, vS p0)]) (fun _ => []) (fun i12_0 => [(0, vS p0), (3, vI i12_0)]) (fun i12_0 => []) [] (fun oJ15 hJ15 again i12_0 h => ?_) fun ⟨⟩ h => ?_
 ·refine AW.one ?_
  refine AW.ro ?_
  refine AW.ks [] [0, 3, 21] ?_
  refine AW.tt h (fun hb16 h => ?_) fun hb16 h => ?_
  ·refine AW.sk ?_
   refine AW.ks [] [0, 3] ?_
   refine AW.jo h (fun _ => [(0, vS p0), (3, vI i12_0)]) (fun _ => []) (fun oJ18 h hJ18 => ?_) fun ⟨⟩ h => ?_
   ·refine AW.block ?_
    refine AW.jn h (fun v19_0 => [(0, vS p0), (3, vI i12_0), (40, vB v19_0)]) (fun v19_0 => []) (fun oJ20 h => ?_) fun v19_0 h => ?_
    ·refine AW.rp ?_
     refine bb h fun c21 hx22 h => ?_
     refine cm h tree_letter_ok fun r23 hx24 h => ?_
     refine sK h (fun hb25 h => ?_) fun hb25 h => ?_
     ·refine sK h (fun hb26 h => ?_) fun hb26 h => ?_
      ·exact ja [] h
      exact ja [] h
     exact ja [] h
    refine AW.tk h (fun hb27 h => ?_) fun hb27 h => ?_
    ·refine AW.ro ?_
     refine AW.ret ?_
     have h := up h hJ18
     have h := up h hJ15
     cases h; refine nz ?_; exact .same _
    exact jo [] h
   refine AW.rp ?_
   exact na [] h
  refine AW.ex ?_
  exact jo [] h
 refine AW.ks [] [0] ?_
 refine AW.one ?_
 refine AW.ro ?_
 refine AW.ks [] [41] ?_
 refine AW.block ?_
 refine AW.jn h (fun v28_0 => [(42, vB v28_0)]) (fun v28_0 => []) (fun oJ29 h => ?_) fun v28_0 h => ?_
 ·refine AW.ro ?_
  refine AW.ks [] [41, 42] ?_
  refine AW.tt h (fun hb30 h => ?_) fun hb30 h => ?_
  ·refine AW.sk ?_
   exact ja [] h
  refine AW.ro ?_
  refine AW.ks [] [41, 42] ?_
  refine AW.tt h (fun hb31 h => ?_) fun hb31 h => ?_
  ·refine AW.sk ?_
   exact ja [] h
  refine AW.ro ?_
  refine AW.ks [] [41, 42] ?_
  refine AW.tt h (fun hb32 h => ?_) fun hb32 h => ?_
  ·refine AW.sk ?_
   exact ja [] h
  refine AW.rp ?_
  exact ja [] h
 refine AW.tk h (fun hb33 h => ?_) fun hb33 h => ?_
 ·refine AW.ro ?_
  refine AW.ret ?_
  cases h; refine nz ?_; exact .same _
 refine AW.kr [] [] ?_
 refine AW.ret ?_
 cases h; refine nz ?_; exact .same _
/-! ### isochrone/tree.differentiable -/
def tree_differentiable_body (K : Nat) (self88 : NodeA → Option Bool) (p0 : NodeA) : Option Bool := ((
  if (p0.op == (20 : Int)) then
   some (p0.op == (20 : Int))
  else
   if (p0.op == (21 : Int)) then
    some (p0.op == (21 : Int))
   else
    if (p0.op == (22 : Int)) then
     some (p0.op == (22 : Int))
    else
     if (p0.op == (23 : Int)) then
      some (p0.op == (23 : Int))
     else
      if (p0.op == (24 : Int)) then
       some (p0.op == (24 : Int))
      else
       if (p0.op == (25 : Int)) then
        some (p0.op == (25 : Int))
       else
        if (p0.op == (26 : Int)) then
         some (p0.op == (26 : Int))
        else
         if (p0.op == (27 : Int)) then
          some (p0.op == (27 : Int))
         else
          if (p0.op == (37 : Int)) then
           some (p0.op == (37 : Int))
          else
           some (p0.op == (38 : Int))) : Option Bool).bind (fun v1_0 =>
 if v1_0 then
  some true
 else
  ((
   if (p0.op == (29 : Int)) then
    some (p0.op == (29 : Int))
   else
    some (p0.op == (30 : Int))) : Option Bool).bind (fun v13_0 =>
  if v13_0 then
   ((iter (S := Int) (R := Out Unit _) K (fun again i17_0 =>
    if (decide (i17_0 < (p0.kids.length : Int))) then
     (idx p0.kids i17_0).bind fun x22 =>
     (self88 (x22)).bind fun r24 =>
     if (!r24) then
      outM (
       some false)
     else
      again (IntKind.wrap .i64 (i17_0 + (1 : Int)))
    else
     some (.go ())) (0 : Int)) : Option (Out Unit _)).bind (Out.fin fun _ =>
   some true)
  else
   some false))
set_option maxHeartbeats 4000000 in
theorem tree_differentiable_step (K : Nat) (self88 : NodeA → Option Bool) (hself88 : ∀ (q : NodeA) (r : Bool), self88 q = some r → Cn Tryz.prog 88 [aggV q.enc] (.d (.val (.bool r)))) (p0 : NodeA) (r : Bool) (h : tree_differentiable_body K self88 p0 = some r) : Cn Tryz.prog 88 [aggV p0.enc] (.d (.val (.bool r))) := by
 refine Cn.oz Tryz.func88 Tryz.call88 Tryz.ntmps88 Tryz.results88 fun hfit => ?_
 unfold tree_differentiable_body at h
 refine AW.kr [] [0] ?_
 refine AW.ks [0] [1] ?_
 refine AW.one ?_
 refine AW.ro ?_
 refine AW.ks [0] [1, 6] ?_
 refine AW.block ?_
 refine AW.jn h (fun v1_0 => [(1, .ptr 0 6 0 0), (6, vI p0.op), (7, vB v1_0)]) (fun v1_0 => [vE p0.enc]) (fun oJ2 h => ?_) fun v1_0 h => ?_
 ·refine AW.ro ?_
  refine AW.ks [0] [1, 6, 7] ?_
  refine AW.tt h (fun hb3 h => ?_) fun hb3 h => ?_
  ·refine AW.sk ?_
   exact ja [0] h
  refine AW.ro ?_
  refine AW.ks [0] [1, 6, 7] ?_
  refine AW.tt h (fun hb4 h => ?_) fun hb4 h => ?_
  ·refine AW.sk ?_
   exact ja [0] h
  refine AW.ro ?_
  refine AW.ks [0] [1, 6, 7] ?_
  refine AW.tt h (fun hb5 h => ?_) fun hb5 h => ?_
  ·refine AW.sk ?_
   exact ja [0] h
  refine AW.ro ?_
  refine AW.ks [0] [1, 6, 7] ?_
  refine AW.tt h (fun hb6 h => ?_) fun hb6 h => ?_
  ·refine AW.sk ?_
   exact ja [0] h
  refine AW.ro ?_
  refine AW.ks [0] [1, 6, 7] ?_
  refine AW.tt h (fun hb7 h => ?_) fun hb7 h => ?_
  ·refine AW.sk ?_
   exact ja [0] h
  refine AW.ro ?_
  refine AW.ks [0] [1, 6, 7] ?_
  refine AW.tt h (fun hb8 h => ?_) fun hb8 h => ?_
  ·refine AW.sk ?_
   exact ja [0] h
  refine AW.ro ?_
  refine AW.ks [0] [1, 6, 7] ?_
  refine AW.tt h (fun hb9 h => ?_) fun hb9 h => ?_
  ·refine AW.sk ?_
   exact ja [0] h
  refine AW.ro ?_
  refine AW.ks [0] [1, 6, 7] ?_
  refine AW.tt h (fun hb10 h => ?_) fun hb10 h => ?_
  ·refine AW.sk ?_
   exact ja [0] h
  refine AW.ro ?_
  refine AW.ks [0] [1, 6, 7] ?_
  refine AW.tt h (fun hb11 h => ?_) fun hb11 h => ?_
  ·refine AW.sk ?_
   exact ja [0] h
  refine AW.rp ?_
  exact ja [0] h
 refine AW.tt h (fun hb12 h => ?_) fun hb12 h => ?_
 ·refine AW.ro ?_
  refine AW.ret ?_
  cases h; refine nz ?_; exact .same _
 refine AW.jn h (fun v13_0 => [(1, .ptr 0 6 0 0), (18, vB v13_0)]) (fun v13_0 => [vE p0.enc]) (fun oJ14 h => ?_) fun v13_0 h => ?_
 ·refine AW.ro ?_
  refine AW.ks [0] [1, 6, 18] ?_
  refine AW.tt h (fun hb15 h => ?_) fun hb15 h => ?_
  ·refine AW.sk ?_
   exact ja [0] h
  refine AW.rp ?_
  exact ja [0] h
 refine AW.tk h (fun hb16 h => ?_) fun hb16 h => ?_
 ·refine AW.one ?_
  refine AW.ro ?_
  refine AW.ks [] [22, 23, 24] ?_
  refine AW.lp h (fun _ => []) (fun _ => []) (fun i17_0 => [(22, vL NodeA.enc p0.kids), (23, vI (p0.kids.length : Int)), (24, vI i17_0)]) (fun i17_0 => []) [] (fun oJ20 hJ20 again i17_0 h => ?_) fun ⟨⟩ h => ?_
  ·refine AW.ro ?_
   refine AW.ks [] [22, 23, 24, 25] ?_
   refine AW.one ?_
   refine AW.tt h (fun hb21 h => ?_) fun hb21 h => ?_
   ·refine AW.sk ?_
    refine AW.ks [] [22, 23, 24] ?_
    refine AW.one ?_
    refine AW.block ?_
    refine AW.ro ?_
    refine bx h fun x22 h0 h1 h => ?_
    refine AW.kr [2] [4, 22, 23, 24] ?_
    refine cm h (hself88 _ _) fun r24 hx25 h => ?_
    refine AW.ks [] [22, 23, 24, 30] ?_
    refine AW.tk h (fun hb26 h => ?_) fun hb26 h => ?_
    ·refine AW.ro ?_
     refine AW.ret ?_
     have h := up h hJ20
     cases h; refine nz ?_; exact .same _
    refine AW.ks [] [22, 23, 24] ?_
    refine AW.rp ?_
    exact na [] h
   refine AW.ex ?_
   exact jo [] h
  refine AW.kr [] [] ?_
  refine AW.ret ?_
  cases h; refine nz ?_; exact .same _
 refine AW.kr [] [] ?_
 refine AW.ret ?_
 cases h; refine nz ?_; exact .same _
def tree_differentiable (K : Nat) (p0 : NodeA) : Option Bool := iter K (fun self q => tree_differentiable_body K self q) p0
theorem key_tree_differentiable {K : Nat} (k : Nat) : (∀ (q : NodeA) (r : Bool), iter k (fun self q => tree_differentiable_body K self q) q = some r → Cn Tryz.prog 88 [aggV q.enc] (.d (.val (.bool r)))) := by
 induction k with
 | zero => exact fun q r h => by cases h
 | succ k ih => exact fun q r h => tree_differentiable_step K _ ih q r h
theorem tree_differentiable_ok {K : Nat} {p0 : NodeA} {r : Bool} (h : tree_differentiable K p0 = some r) : Cn Tryz.prog 88 [aggV p0.enc] (.d (.val (.bool r))) := (key_tree_differentiable K) p0 r h
/-! ### isochrone/num.valid -/
def num_valid (K : Nat) (p0 : List Int) (p1 : Int) : Option Bool := if (decide ((p0.length : Int) ≤ p1)) then
  if ((p0.length : Int) == (0 : Int)) then
   some true
  else
   (idx p0 (IntKind.wrap .i64 ((p0.length : Int) - (1 : Int)))).bind fun x3 =>
   some (x3 != (0 : Int))
 else
  some false
set_option maxHeartbeats 4000000 in
theorem num_valid_ok {K : Nat} {p0 : List Int} {p1 : Int} {r : Bool} (h : num_valid K p0 p1 = some r) : Cn Tryz.prog 150 [.d (slD u32V p0), .d (.val (.int .i64 p1))] (.d (.val (.bool r))) := by
 refine Cn.oz Tryz.func150 Tryz.call150 Tryz.ntmps150 Tryz.results150 fun hfit => ?_
 unfold num_valid at h
 refine AW.kr [] [0, 1] ?_
 refine AW.kr [] [0, 1] ?_
 refine sK h (fun hb1 h => ?_) fun hb1 h => ?_
 ·refine sK h (fun hb2 h => ?_) fun hb2 h => ?_
  ·refine AW.ret ?_
   cases h; refine nz ?_; exact .same _
  refine bx h fun x3 h0 h1 h => ?_
  refine AW.ret ?_
  cases h; refine nz ?_; exact .same _
 refine AW.ret ?_
 cases h; refine nz ?_; exact .same _
/-! ### isochrone/num.Valid -/
def num_Valid (K : Nat) (p0 : RatA) (p1 : Int) : Option Bool := ((
  ((
   (num_valid K p0.num p1).bind fun r5 =>
   if (!r5) then
    some true
   else
    (num_valid K p0.den p1).bind fun r8 =>
    if (!r8) then
     some true
    else
     some ((p0.den.length : Int) == (0 : Int))) : Option Bool).bind (fun v3_0 =>
  if v3_0 then
   outM (
    some false)
  else
   some (.go ()))) : Option (Out Unit _)).bind (Out.fin fun _ =>
 if ((p0.num.length : Int) == (0 : Int)) then
  if (!p0.neg) then
   if ((p0.den.length : Int) == (1 : Int)) then
    (idx p0.den (0 : Int)).bind fun x15 =>
    some (x15 == (1 : Int))
   else
    some false
  else
   some false
 else
  ((
   ((
    if ((p0.den.length : Int) == (1 : Int)) then
     (idx p0.den (0 : Int)).bind fun x22 =>
     some (x22 == (1 : Int))
    else
     some false) : Option Bool).bind (fun v19_0 =>
   if v19_0 then
    outM (
     some true)
   else
    some (.go ()))) : Option (Out Unit _)).bind (Out.fin fun _ =>
  none))
set_option maxHeartbeats 4000000 in
theorem num_Valid_ok {K : Nat} {p0 : RatA} {p1 : Int} {r : Bool} (h : num_Valid K p0 p1 = some r) : Cn Tryz.prog 128 [aggV p0.enc, .d (.val (.int .i64 p1))] (.d (.val (.bool r))) := by
 refine Cn.oz Tryz.func128 Tryz.call128 Tryz.ntmps128 Tryz.results128 fun hfit => ?_
 unfold num_Valid at h
 refine AW.kr [] [0, 1] ?_
 refine AW.ks [0] [1, 2] ?_
 refine AW.jo h (fun _ => [(2, .ptr 0 3 0 0)]) (fun _ => [vE p0.enc]) (fun oJ2 h hJ2 => ?_) fun ⟨⟩ h => ?_
 ·refine AW.jn h (fun v3_0 => [(2, .ptr 0 3 0 0), (23, vB v3_0)]) (fun v3_0 => [vE p0.enc]) (fun oJ4 h => ?_) fun v3_0 h => ?_
  ·refine AW.rp ?_
   refine cm h num_valid_ok fun r5 hx6 h => ?_
   refine sK h (fun hb7 h => ?_) fun hb7 h => ?_
   ·exact ja [0] h
   refine cm h num_valid_ok fun r8 hx9 h => ?_
   refine sK h (fun hb10 h => ?_) fun hb10 h => ?_
   ·exact ja [0] h
   exact ja [0] h
  refine AW.tk h (fun hb11 h => ?_) fun hb11 h => ?_
  ·refine AW.ro ?_
   refine AW.ret ?_
   have h := up h hJ2
   cases h; refine nz ?_; exact .same _
  exact jo [0] h
 refine AW.one ?_
 refine AW.ro ?_
 refine AW.ks [0] [2, 27] ?_
 refine AW.tk h (fun hb12 h => ?_) fun hb12 h => ?_
 ·refine AW.ro ?_
  refine sK h (fun hb13 h => ?_) fun hb13 h => ?_
  ·refine sK h (fun hb14 h => ?_) fun hb14 h => ?_
   ·refine bx h fun x15 h0 h1 h => ?_
    refine AW.ret ?_
    cases h; refine nz ?_; exact .same _
   refine AW.ret ?_
   cases h; refine nz ?_; exact .same _
  refine AW.ret ?_
  cases h; refine nz ?_; exact .same _
 refine AW.ks [0] [2] ?_
 refine AW.jo h (fun _ => [(2, .ptr 0 3 0 0)]) (fun _ => [vE p0.enc]) (fun oJ18 h hJ18 => ?_) fun ⟨⟩ h => ?_
 ·refine AW.jn h (fun v19_0 => [(2, .ptr 0 3 0 0), (54, vB v19_0)]) (fun v19_0 => [vE p0.enc]) (fun oJ20 h => ?_) fun v19_0 h => ?_
  ·refine AW.rp ?_
   refine sK h (fun hb21 h => ?_) fun hb21 h => ?_
   ·refine bx h fun x22 h0 h1 h => ?_
    exact ja [0] h
   exact ja [0] h
  refine AW.tk h (fun hb24 h => ?_) fun hb24 h => ?_
  ·refine AW.ro ?_
   refine AW.ret ?_
   have h := up h hJ18
   cases h; refine nz ?_; exact .same _
  exact jo [0] h
 refine AW.ro ?_
 cases h
/-! ### isochrone/rat.Valid -/
def rat_Valid (K : Nat) (p0 : RatA) : Option Bool := (num_Valid K p0 (4096 : Int)).bind fun r1 =>
 some r1
set_option maxHeartbeats 4000000 in
theorem rat_Valid_ok {K : Nat} {p0 : RatA} {r : Bool} (h : rat_Valid K p0 = some r) : Cn Tryz.prog 104 [aggV p0.enc] (.d (.val (.bool r))) := by
 refine Cn.oz Tryz.func104 Tryz.call104 Tryz.ntmps104 Tryz.results104 fun hfit => ?_
 unfold rat_Valid at h
 refine AW.kr [] [0] ?_
 refine AW.kr [0] [1] ?_
 refine cm h num_Valid_ok fun r1 hx2 h => ?_
 refine AW.ret ?_
 cases h; refine nz ?_; exact .same _
/-! ### isochrone/tree.natural -/
def tree_natural (K : Nat) (p0 : RatA) : Option Bool := if (!p0.neg) then
  if ((p0.den.length : Int) == (1 : Int)) then
   (idx p0.den (0 : Int)).bind fun x3 =>
   if (x3 == (1 : Int)) then
    if (decide ((p0.num.length : Int) ≤ (20 : Int))) then
     (rat_Valid K p0).bind fun r7 =>
     some r7
    else
     some false
   else
    some false
  else
   some false
 else
  some false
set_option maxHeartbeats 4000000 in
theorem tree_natural_ok {K : Nat} {p0 : RatA} {r : Bool} (h : tree_natural K p0 = some r) : Cn Tryz.prog 85 [aggV p0.enc] (.d (.val (.bool r))) := by
 refine Cn.oz Tryz.func85 Tryz.call85 Tryz.ntmps85 Tryz.results85 fun hfit => ?_
 unfold tree_natural at h
 refine AW.kr [] [0] ?_
 refine AW.kr [0] [1] ?_
 refine sK h (fun hb1 h => ?_) fun hb1 h => ?_
 ·refine sK h (fun hb2 h => ?_) fun hb2 h => ?_
  ·refine bx h fun x3 h0 h1 h => ?_
   refine sK h (fun hb5 h => ?_) fun hb5 h => ?_
   ·refine sK h (fun hb6 h => ?_) fun hb6 h => ?_
    ·refine cm h rat_Valid_ok fun r7 hx8 h => ?_
     refine AW.ret ?_
     cases h; refine nz ?_; exact .same _
    refine AW.ret ?_
    cases h; refine nz ?_; exact .same _
   refine AW.ret ?_
   cases h; refine nz ?_; exact .same _
  refine AW.ret ?_
  cases h; refine nz ?_; exact .same _
 refine AW.ret ?_
 cases h; refine nz ?_; exact .same _
/-! ### isochrone/tree.shape -/
def tree_shape (K : Nat) (p0 : Int) : Option (Bool × (Option (List Int))) := ((
  if (p0 == (1 : Int)) then
   some (p0 == (1 : Int))
  else
   if (p0 == (13 : Int)) then
    some (p0 == (13 : Int))
   else
    if (p0 == (20 : Int)) then
     some (p0 == (20 : Int))
    else
     some (p0 == (21 : Int))) : Option Bool).bind (fun v1_0 =>
 if v1_0 then
  some (false, none)
 else
  ((
   if (p0 == (2 : Int)) then
    some (p0 == (2 : Int))
   else
    if (p0 == (3 : Int)) then
     some (p0 == (3 : Int))
    else
     if (p0 == (11 : Int)) then
      some (p0 == (11 : Int))
     else
      if (p0 == (38 : Int)) then
       some (p0 == (38 : Int))
      else
       if (p0 == (52 : Int)) then
        some (p0 == (52 : Int))
       else
        if (p0 == (56 : Int)) then
         some (p0 == (56 : Int))
        else
         if (p0 == (61 : Int)) then
          some (p0 == (61 : Int))
         else
          some (p0 == (62 : Int))) : Option Bool).bind (fun v7_0 =>
  if v7_0 then
   some (true, none)
  else
   ((
    if (p0 == (4 : Int)) then
     some (p0 == (4 : Int))
    else
     if (p0 == (12 : Int)) then
      some (p0 == (12 : Int))
     else
      if (p0 == (53 : Int)) then
       some (p0 == (53 : Int))
      else
       if (p0 == (28 : Int)) then
        some (p0 == (28 : Int))
       else
        if (p0 == (39 : Int)) then
         some (p0 == (39 : Int))
        else
         if (p0 == (59 : Int)) then
          some (p0 == (59 : Int))
         else
          some (p0 == (60 : Int))) : Option Bool).bind (fun v17_0 =>
   if v17_0 then
    ((
     ((
      if (p0 == (4 : Int)) then
       some (p0 == (4 : Int))
      else
       some (p0 == (12 : Int))) : Option Bool).bind (fun v28_0 =>
     if v28_0 then
      outM (
       some (false, (some [(1 : Int)])))
     else
      ((
       if (p0 == (59 : Int)) then
        some (p0 == (59 : Int))
       else
        some (p0 == (60 : Int))) : Option Bool).bind (fun v32_0 =>
      if v32_0 then
       outM (
        some (false, (some [(3 : Int)])))
      else
       some (.go ())))) : Option (Out Unit _)).bind (Out.fin fun _ =>
    some (false, (some [(2 : Int)])))
   else
    ((
     if (p0 == (5 : Int)) then
      some (p0 == (5 : Int))
     else
      if (p0 == (6 : Int)) then
       some (p0 == (6 : Int))
      else
       if (p0 == (7 : Int)) then
        some (p0 == (7 : Int))
       else
        if (p0 == (8 : Int)) then
         some (p0 == (8 : Int))
        else
         if (p0 == (9 : Int)) then
          some (p0 == (9 : Int))
         else
          if (p0 == (22 : Int)) then
           some (p0 == (22 : Int))
          else
           if (p0 == (23 : Int)) then
            some (p0 == (23 : Int))
           else
            if (p0 == (24 : Int)) then
             some (p0 == (24 : Int))
            else
             if (p0 == (25 : Int)) then
              some (p0 == (25 : Int))
             else
              if (p0 == (26 : Int)) then
               some (p0 == (26 : Int))
              else
               some (p0 == (27 : Int))) : Option Bool).bind (fun v36_0 =>
    if v36_0 then
     some (false, (some [(1 : Int), (1 : Int)]))
    else
     ((
      if (p0 == (29 : Int)) then
       some (p0 == (29 : Int))
      else
       if (p0 == (30 : Int)) then
        some (p0 == (30 : Int))
       else
        if (p0 == (31 : Int)) then
         some (p0 == (31 : Int))
        else
         some (p0 == (32 : Int))) : Option Bool).bind (fun v49_0 =>
     if v49_0 then
      some (false, (some [(2 : Int), (2 : Int)]))
     else
      ((
       if (p0 == (33 : Int)) then
        some (p0 == (33 : Int))
       else
        some (p0 == (34 : Int))) : Option Bool).bind (fun v55_0 =>
      if v55_0 then
       some (true, (some [(2 : Int)]))
      else
       ((
        if (p0 == (35 : Int)) then
         some (p0 == (35 : Int))
        else
         some (p0 == (36 : Int))) : Option Bool).bind (fun v59_0 =>
       if v59_0 then
        some (false, (some [(3 : Int), (2 : Int)]))
       else
        ((
         if (p0 == (50 : Int)) then
          some (p0 == (50 : Int))
         else
          if (p0 == (51 : Int)) then
           some (p0 == (51 : Int))
          else
           some (p0 == (55 : Int))) : Option Bool).bind (fun v63_0 =>
        if v63_0 then
         some (true, (some [(1 : Int)]))
        else
         ((
          if (p0 == (57 : Int)) then
           some (p0 == (57 : Int))
          else
           some (p0 == (58 : Int))) : Option Bool).bind (fun v68_0 =>
         if v68_0 then
          some (false, (some [(3 : Int), (3 : Int)]))
         else
          some (false, none))))))))))
set_option maxHeartbeats 4000000 in
theorem tree_shape_ok {K : Nat} {p0 : Int} {r : Bool × (Option (List Int))} (h : tree_shape K p0 = some r) : Cn Tryz.prog 86 [.d (.val (.int .i64 p0))] (.tup [.d (.val (.bool r.1)), nilV i64V r.2]) := by
 refine Cn.oz Tryz.func86 Tryz.call86 Tryz.ntmps86 Tryz.results86 fun hfit => ?_
 unfold tree_shape at h
 refine AW.kr [] [0] ?_
 refine AW.ks [] [0] ?_
 refine AW.one ?_
 refine AW.ro ?_
 refine AW.ks [] [0, 4] ?_
 refine AW.block ?_
 refine AW.jn h (fun v1_0 => [(0, vI p0), (4, vI p0), (5, vB v1_0)]) (fun v1_0 => []) (fun oJ2 h => ?_) fun v1_0 h => ?_
 ·refine AW.ro ?_
  refine AW.ks [] [0, 4, 5] ?_
  refine AW.tt h (fun hb3 h => ?_) fun hb3 h => ?_
  ·refine AW.sk ?_
   exact ja [] h
  refine AW.ro ?_
  refine AW.ks [] [0, 4, 5] ?_
  refine AW.tt h (fun hb4 h => ?_) fun hb4 h => ?_
  ·refine AW.sk ?_
   exact ja [] h
  refine AW.ro ?_
  refine AW.ks [] [0, 4, 5] ?_
  refine AW.tt h (fun hb5 h => ?_) fun hb5 h => ?_
  ·refine AW.sk ?_
   exact ja [] h
  refine AW.rp ?_
  exact ja [] h
 refine AW.tt h (fun hb6 h => ?_) fun hb6 h => ?_
 ·refine AW.ro ?_
  refine AW.ret ?_
  cases h; refine nz ?_; exact .same _
 refine AW.jn h (fun v7_0 => [(0, vI p0), (4, vI p0), (10, vB v7_0)]) (fun v7_0 => []) (fun oJ8 h => ?_) fun v7_0 h => ?_
 ·refine AW.ro ?_
  refine AW.ks [] [0, 4, 10] ?_
  refine AW.tt h (fun hb9 h => ?_) fun hb9 h => ?_
  ·refine AW.sk ?_
   exact ja [] h
  refine AW.ro ?_
  refine AW.ks [] [0, 4, 10] ?_
  refine AW.tt h (fun hb10 h => ?_) fun hb10 h => ?_
  ·refine AW.sk ?_
   exact ja [] h
  refine AW.ro ?_
  refine AW.ks [] [0, 4, 10] ?_
  refine AW.tt h (fun hb11 h => ?_) fun hb11 h => ?_
  ·refine AW.sk ?_
   exact ja [] h
  refine AW.ro ?_
  refine AW.ks [] [0, 4, 10] ?_
  refine AW.tt h (fun hb12 h => ?_) fun hb12 h => ?_
  ·refine AW.sk ?_
   exact ja [] h
  refine AW.ro ?_
  refine AW.ks [] [0, 4, 10] ?_
  refine AW.tt h (fun hb13 h => ?_) fun hb13 h => ?_
  ·refine AW.sk ?_
   exact ja [] h
  refine AW.ro ?_
  refine AW.ks [] [0, 4, 10] ?_
  refine AW.tt h (fun hb14 h => ?_) fun hb14 h => ?_
  ·refine AW.sk ?_
   exact ja [] h
  refine AW.ro ?_
  refine AW.ks [] [0, 4, 10] ?_
  refine AW.tt h (fun hb15 h => ?_) fun hb15 h => ?_
  ·refine AW.sk ?_
   exact ja [] h
  refine AW.rp ?_
  exact ja [] h
 refine AW.tt h (fun hb16 h => ?_) fun hb16 h => ?_
 ·refine AW.ro ?_
  refine AW.ret ?_
  cases h; refine nz ?_; exact .same _
 refine AW.jn h (fun v17_0 => [(0, vI p0), (4, vI p0), (19, vB v17_0)]) (fun v17_0 => []) (fun oJ18 h => ?_) fun v17_0 h => ?_
 ·refine AW.ro ?_
  refine AW.ks [] [0, 4, 19] ?_
  refine AW.tt h (fun hb19 h => ?_) fun hb19 h => ?_
  ·refine AW.sk ?_
   exact ja [] h
  refine AW.ro ?_
  refine AW.ks [] [0, 4, 19] ?_
  refine AW.tt h (fun hb20 h => ?_) fun hb20 h => ?_
  ·refine AW.sk ?_
   exact ja [] h
  refine AW.ro ?_
  refine AW.ks [] [0, 4, 19] ?_
  refine AW.tt h (fun hb21 h => ?_) fun hb21 h => ?_
  ·refine AW.sk ?_
   exact ja [] h
  refine AW.ro ?_
  refine AW.ks [] [0, 4, 19] ?_
  refine AW.tt h (fun hb22 h => ?_) fun hb22 h => ?_
  ·refine AW.sk ?_
   exact ja [] h
  refine AW.ro ?_
  refine AW.ks [] [0, 4, 19] ?_
  refine AW.tt h (fun hb23 h => ?_) fun hb23 h => ?_
  ·refine AW.sk ?_
   exact ja [] h
  refine AW.ro ?_
  refine AW.ks [] [0, 4, 19] ?_
  refine AW.tt h (fun hb24 h => ?_) fun hb24 h => ?_
  ·refine AW.sk ?_
   exact ja [] h
  refine AW.rp ?_
  exact ja [] h
 refine AW.tt h (fun hb25 h => ?_) fun hb25 h => ?_
 ·refine AW.jo h (fun _ => []) (fun _ => []) (fun oJ27 h hJ27 => ?_) fun ⟨⟩ h => ?_
  ·refine AW.ro ?_
   refine AW.ks [] [27] ?_
   refine AW.block ?_
   refine AW.jn h (fun v28_0 => [(27, vI p0), (28, vB v28_0)]) (fun v28_0 => []) (fun oJ29 h => ?_) fun v28_0 h => ?_
   ·refine AW.ro ?_
    refine AW.ks [] [27, 28] ?_
    refine AW.tt h (fun hb30 h => ?_) fun hb30 h => ?_
    ·refine AW.sk ?_
     exact ja [] h
    refine AW.rp ?_
    exact ja [] h
   refine AW.tt h (fun hb31 h => ?_) fun hb31 h => ?_
   ·refine AW.ro ?_
    refine AW.ret ?_
    have h := up h hJ27
    cases h; refine nz ?_; exact .same _
   refine AW.jn h (fun v32_0 => [(32, vB v32_0)]) (fun v32_0 => []) (fun oJ33 h => ?_) fun v32_0 h => ?_
   ·refine AW.ro ?_
    refine AW.ks [] [27, 32] ?_
    refine AW.tt h (fun hb34 h => ?_) fun hb34 h => ?_
    ·refine AW.sk ?_
     exact ja [] h
    refine AW.rp ?_
    exact ja [] h
   refine AW.tk h (fun hb35 h => ?_) fun hb35 h => ?_
   ·refine AW.ro ?_
    refine AW.ret ?_
    have h := up h hJ27
    cases h; refine nz ?_; exact .same _
   exact jo [] h
  refine AW.ro ?_
  refine AW.ret ?_
  cases h; refine nz ?_; exact .same _
 refine AW.jn h (fun v36_0 => [(4, vI p0), (37, vB v36_0)]) (fun v36_0 => []) (fun oJ37 h => ?_) fun v36_0 h => ?_
 ·refine AW.ro ?_
  refine AW.ks [] [4, 37] ?_
  refine AW.tt h (fun hb38 h => ?_) fun hb38 h => ?_
  ·refine AW.sk ?_
   exact ja [] h
  refine AW.ro ?_
  refine AW.ks [] [4, 37] ?_
  refine AW.tt h (fun hb39 h => ?_) fun hb39 h => ?_
  ·refine AW.sk ?_
   exact ja [] h
  refine AW.ro ?_
  refine AW.ks [] [4, 37] ?_
  refine AW.tt h (fun hb40 h => ?_) fun hb40 h => ?_
  ·refine AW.sk ?_
   exact ja [] h
  refine AW.ro ?_
  refine AW.ks [] [4, 37] ?_
  refine AW.tt h (fun hb41 h => ?_) fun hb41 h => ?_
  ·refine AW.sk ?_
   exact ja [] h
  refine AW.ro ?_
  refine AW.ks [] [4, 37] ?_
  refine AW.tt h (fun hb42 h => ?_) fun hb42 h => ?_
  ·refine AW.sk ?_
   exact ja [] h
  refine AW.ro ?_
  refine AW.ks [] [4, 37] ?_
  refine AW.tt h (fun hb43 h => ?_) fun hb43 h => ?_
  ·refine AW.sk ?_
   exact ja [] h
  refine AW.ro ?_
  refine AW.ks [] [4, 37] ?_
  refine AW.tt h (fun hb44 h => ?_) fun hb44 h => ?_
  ·refine AW.sk ?_
   exact ja [] h
  refine AW.ro ?_
  refine AW.ks [] [4, 37] ?_
  refine AW.tt h (fun hb45 h => ?_) fun hb45 h => ?_
  ·refine AW.sk ?_
   exact ja [] h
  refine AW.ro ?_
  refine AW.ks [] [4, 37] ?_
  refine AW.tt h (fun hb46 h => ?_) fun hb46 h => ?_
  ·refine AW.sk ?_
   exact ja [] h
  refine AW.ro ?_
  refine AW.ks [] [4, 37] ?_
  refine AW.tt h (fun hb47 h => ?_) fun hb47 h => ?_
  ·refine AW.sk ?_
   exact ja [] h
  refine AW.rp ?_
  exact ja [] h
 refine AW.tt h (fun hb48 h => ?_) fun hb48 h => ?_
 ·refine AW.ro ?_
  refine AW.ret ?_
  cases h; refine nz ?_; exact .same _
 refine AW.jn h (fun v49_0 => [(4, vI p0), (50, vB v49_0)]) (fun v49_0 => []) (fun oJ50 h => ?_) fun v49_0 h => ?_
 ·refine AW.ro ?_
  refine AW.ks [] [4, 50] ?_
  refine AW.tt h (fun hb51 h => ?_) fun hb51 h => ?_
  ·refine AW.sk ?_
   exact ja [] h
  refine AW.ro ?_
  refine AW.ks [] [4, 50] ?_
  refine AW.tt h (fun hb52 h => ?_) fun hb52 h => ?_
  ·refine AW.sk ?_
   exact ja [] h
  refine AW.ro ?_
  refine AW.ks [] [4, 50] ?_
  refine AW.tt h (fun hb53 h => ?_) fun hb53 h => ?_
  ·refine AW.sk ?_
   exact ja [] h
  refine AW.rp ?_
  exact ja [] h
 refine AW.tt h (fun hb54 h => ?_) fun hb54 h => ?_
 ·refine AW.ro ?_
  refine AW.ret ?_
  cases h; refine nz ?_; exact .same _
 refine AW.jn h (fun v55_0 => [(4, vI p0), (56, vB v55_0)]) (fun v55_0 => []) (fun oJ56 h => ?_) fun v55_0 h => ?_
 ·refine AW.ro ?_
  refine AW.ks [] [4, 56] ?_
  refine AW.tt h (fun hb57 h => ?_) fun hb57 h => ?_
  ·refine AW.sk ?_
   exact ja [] h
  refine AW.rp ?_
  exact ja [] h
 refine AW.tt h (fun hb58 h => ?_) fun hb58 h => ?_
 ·refine AW.ro ?_
  refine AW.ret ?_
  cases h; refine nz ?_; exact .same _
 refine AW.jn h (fun v59_0 => [(4, vI p0), (60, vB v59_0)]) (fun v59_0 => []) (fun oJ60 h => ?_) fun v59_0 h => ?_
 ·refine AW.ro ?_
  refine AW.ks [] [4, 60] ?_
  refine AW.tt h (fun hb61 h => ?_) fun hb61 h => ?_
  ·refine AW.sk ?_
   exact ja [] h
  refine AW.rp ?_
  exact ja [] h
 refine AW.tt h (fun hb62 h => ?_) fun hb62 h => ?_
 ·refine AW.ro ?_
  refine AW.ret ?_
  cases h; refine nz ?_; exact .same _
 refine AW.jn h (fun v63_0 => [(4, vI p0), (64, vB v63_0)]) (fun v63_0 => []) (fun oJ64 h => ?_) fun v63_0 h => ?_
 ·refine AW.ro ?_
  refine AW.ks [] [4, 64] ?_
  refine AW.tt h (fun hb65 h => ?_) fun hb65 h => ?_
  ·refine AW.sk ?_
   exact ja [] h
  refine AW.ro ?_
  refine AW.ks [] [4, 64] ?_
  refine AW.tt h (fun hb66 h => ?_) fun hb66 h => ?_
  ·refine AW.sk ?_
   exact ja [] h
  refine AW.rp ?_
  exact ja [] h
 refine AW.tt h (fun hb67 h => ?_) fun hb67 h => ?_
 ·refine AW.ro ?_
  refine AW.ret ?_
  cases h; refine nz ?_; exact .same _
 refine AW.jn h (fun v68_0 => [(69, vB v68_0)]) (fun v68_0 => []) (fun oJ69 h => ?_) fun v68_0 h => ?_
 ·refine AW.ro ?_
  refine AW.ks [] [4, 69] ?_
  refine AW.tt h (fun hb70 h => ?_) fun hb70 h => ?_
  ·refine AW.sk ?_
   exact ja [] h
  refine AW.rp ?_
  exact ja [] h
 refine AW.tk h (fun hb71 h => ?_) fun hb71 h => ?_
 ·refine AW.ro ?_
  refine AW.ret ?_
  cases h; refine nz ?_; exact .same _
 refine AW.kr [] [] ?_
 refine AW.ret ?_
 cases h; refine nz ?_; exact .same _
structure Tree_placeA where
 inDiff : Bool
 inFDiff : Bool
 inFlow : Bool
def Tree_placeA.enc (x : Tree_placeA) : List D := [.val (.bool x.inDiff), .val (.bool x.inFDiff), .val (.bool x.inFlow)]
theorem Tree_placeA.enc_eta (x : Tree_placeA) : x.enc = [.val (.bool x.inDiff), .val (.bool x.inFDiff), .val (.bool x.inFlow)] := rfl
attribute [go_sem] Tree_placeA.enc_eta
/-! ### isochrone/tree.formed -/
def tree_formed_body (K : Nat) (self52 : (NodeA × Tree_placeA) → Option Bool) (p0 : NodeA) (p1 : Tree_placeA) : Option Bool := ((
  if (p0.op == (1 : Int)) then
   (tree_natural K p0.num).bind fun r4 =>
   if (!r4) then
    outM (
     some false)
   else
    some (.go ())
  else
   ((
    if p0.num.neg then
     some true
    else
     if (decide ((0 : Int) < (p0.num.num.length : Int))) then
      some true
     else
      some (decide ((0 : Int) < (p0.num.den.length : Int)))) : Option Bool).bind (fun v7_0 =>
   if v7_0 then
    outM (
     some false)
   else
    some (.go ()))) : Option (Out Unit _)).bind (Out.fin fun _ =>
 (tree_shape K p0.op).bind fun r12 =>
 ((
  ((
   if r12.1 then
    (tree_Name K p0.name).bind fun r19 =>
    if (!r19) then
     some true
    else
     some false
   else
    if (!(p0.name.toList == (⟨#[]⟩ : ByteArray).toList)) then
     if (p0.op != (10 : Int)) then
      some (p0.op != (37 : Int))
     else
      some false
    else
     some false) : Option Bool).bind (fun v16_0 =>
  if v16_0 then
   outM (
    some false)
  else
   some (.go ()))) : Option (Out Unit _)).bind (Out.fin fun _ =>
 ((
  ((
   if (p0.op == (10 : Int)) then
    some (p0.op == (10 : Int))
   else
    some (p0.op == (37 : Int))) : Option Bool).bind (fun v27_0 =>
  if v27_0 then
   ((
    ((
     (tree_Name K p0.name).bind fun r35 =>
     if (!r35) then
      some true
     else
      some (decide ((1 : Int) < (p0.kids.length : Int)))) : Option Bool).bind (fun v33_0 =>
    if v33_0 then
     outM (
      outM (
       some false))
    else
     some (.go ()))) : Option (Out Unit _)).bind (Out.fin fun _ =>
   (must r12.2.isNone).bind fun _ =>
   ((iter (S := Int × (List Int)) (R := (List Int)) K (fun again (i44_0, i44_1) =>
    if (decide (i44_0 < (p0.kids.length : Int))) then
     (appO 8 i44_1 [(1 : Int)]).bind fun l49 =>
     again (IntKind.wrap .i64 (i44_0 + (1 : Int)), l49)
    else
     some i44_1) ((0 : Int), [])) : Option (List Int)).bind (fun e45_0 =>
   some (.go (e45_0, p1))))
  else
   if (p0.op == (54 : Int)) then
    ((
     ((
      if (!(p0.name.toList == (⟨#[]⟩ : ByteArray).toList)) then
       some true
      else
       some (decide ((p0.kids.length : Int) < (2 : Int)))) : Option Bool).bind (fun v54_0 =>
     if v54_0 then
      outM (
       outM (
        some false))
     else
      some (.go ()))) : Option (Out Unit _)).bind (Out.fin fun _ =>
    (must r12.2.isNone).bind fun _ =>
    ((iter (S := Int × (List Int)) (R := Out (List Int) _) K (fun again (i63_0, i63_1) =>
     if (decide (i63_0 < (IntKind.wrap .i64 ((p0.kids.length : Int) - (1 : Int))))) then
      ((
       (idx p0.kids i63_0).bind fun x70 =>
       ((
        ((
         if (x70.op != (55 : Int)) then
          if (x70.op != (56 : Int)) then
           some true
          else
           some (i63_0 != (IntKind.wrap .i64 ((IntKind.wrap .i64 ((p0.kids.length : Int) - (1 : Int))) - (1 : Int))))
         else
          some false) : Option Bool).bind (fun v74_0 =>
        if v74_0 then
         outM (
          outM (
           outM (
            outM (
             some false))))
        else
         some (.go ()))) : Option (Out Unit _)).bind (Out.fin fun _ =>
       (cutL p0.kids none (some i63_0)).bind fun s79 =>
       ((iter (S := Int) (R := Out Unit _) K (fun again i81_0 =>
        if (decide (i81_0 < (s79.length : Int))) then
         ((
          (idx s79 i81_0).bind fun x88 =>
          ((
           if (x70.op == (55 : Int)) then
            some (x88.name.toList == x70.name.toList)
           else
            some false) : Option Bool).bind (fun v90_0 =>
          if v90_0 then
           outM (
            outM (
             outM (
              outM (
               outM (
                some false)))))
          else
           some (.go ()))) : Option (Out Unit _)).bind (Out.fin fun _ =>
         again (IntKind.wrap .i64 (i81_0 + (1 : Int))))
        else
         some (.go ())) (0 : Int)) : Option (Out Unit _)).bind (Out.fin fun _ =>
       (appO 8 i63_1 [(4 : Int)]).bind fun l94 =>
       some (.go l94)))) : Option (Out (List Int) _)).bind (Out.fin fun v68_0 =>
      again (IntKind.wrap .i64 (i63_0 + (1 : Int)), v68_0))
     else
      some (.go i63_1)) ((0 : Int), [])) : Option (Out (List Int) _)).bind (Out.fin fun e64_0 =>
    (appO 8 e64_0 [(2 : Int)]).bind fun l96 =>
    some (.go (l96, (Tree_placeA.mk p1.inDiff p1.inFDiff true)))))
   else
    if (p0.op == (3 : Int)) then
     ((
      if p1.inDiff then
       some true
      else
       if p1.inFDiff then
        some true
       else
        some p1.inFlow) : Option Bool).bind (fun v99_0 =>
     if v99_0 then
      outM (
       some false)
     else
      some (.go ((r12.2.getD []), p1)))
    else
     if (p0.op == (12 : Int)) then
      ((
       ((
        if p1.inDiff then
         some true
        else
         some p1.inFlow) : Option Bool).bind (fun v107_0 =>
       if v107_0 then
        outM (
         outM (
          some false))
       else
        some (.go ()))) : Option (Out Unit _)).bind (Out.fin fun _ =>
      some (.go ((r12.2.getD []), (Tree_placeA.mk true p1.inFDiff p1.inFlow))))
     else
      if (p0.op == (39 : Int)) then
       ((
        ((
         if p1.inFlow then
          some true
         else
          if ((p0.kids.length : Int) != (1 : Int)) then
           some true
          else
           (idx p0.kids (0 : Int)).bind fun x118 =>
           (tree_differentiable K x118).bind fun r120 =>
           some (!r120)) : Option Bool).bind (fun v114_0 =>
        if v114_0 then
         outM (
          outM (
           some false))
        else
         some (.go ()))) : Option (Out Unit _)).bind (Out.fin fun _ =>
       some (.go ((r12.2.getD []), (Tree_placeA.mk p1.inDiff true p1.inFlow))))
      else
       some (.go ((r12.2.getD []), p1)))) : Option (Out ((List Int) × Tree_placeA) _)).bind (Out.fin fun (v25_0, v25_1) =>
 if ((p0.kids.length : Int) != (v25_0.length : Int)) then
  some false
 else
  ((iter (S := Int) (R := Out Unit _) K (fun again i124_0 =>
   if (decide (i124_0 < (p0.kids.length : Int))) then
    ((
     (idx p0.kids i124_0).bind fun x131 =>
     ((
      (tree_Sort K x131.op).bind fun r135 =>
      (idx v25_0 i124_0).bind fun x137 =>
      if (r135 != x137) then
       some true
      else
       (self52 (x131, v25_1)).bind fun r140 =>
       some (!r140)) : Option Bool).bind (fun v133_0 =>
     if v133_0 then
      outM (
       outM (
        some false))
     else
      some (.go ()))) : Option (Out Unit _)).bind (Out.fin fun _ =>
    again (IntKind.wrap .i64 (i124_0 + (1 : Int))))
   else
    some (.go ())) (0 : Int)) : Option (Out Unit _)).bind (Out.fin fun _ =>
  if (p0.op == (8 : Int)) then
   (idx p0.kids (1 : Int)).bind fun x144 =>
   if (x144.op == (1 : Int)) then
    some (decide ((0 : Int) < (x144.num.num.length : Int)))
   else
    some false
  else
   if (p0.op == (9 : Int)) then
    (idx p0.kids (1 : Int)).bind fun x148 =>
    if (x148.op == (1 : Int)) then
     if ((x148.num.num.length : Int) == (0 : Int)) then
      some true
     else
      if ((x148.num.num.length : Int) == (1 : Int)) then
       (idx x148.num.num (0 : Int)).bind fun x153 =>
       some (decide (x153 ≤ (20 : Int)))
      else
       some false
    else
     some false
   else
    some true))))
set_option maxHeartbeats 4000000 in
theorem tree_formed_step (K : Nat) (self52 : (NodeA × Tree_placeA) → Option Bool) (hself52 : ∀ (q : NodeA × Tree_placeA) (r : Bool), self52 q = some r → Cn Tryz.prog 52 [aggV q.1.enc, aggV q.2.enc] (.d (.val (.bool r)))) (p0 : NodeA) (p1 : Tree_placeA) (r : Bool) (h : tree_formed_body K self52 p0 p1 = some r) : Cn Tryz.prog 52 [aggV p0.enc, aggV p1.enc] (.d (.val (.bool r))) := by
 refine Cn.oz Tryz.func52 Tryz.call52 Tryz.ntmps52 Tryz.results52 fun hfit => ?_
 unfold tree_formed_body at h
 refine AW.kr [] [0, 1] ?_
 refine AW.ks [0, 1] [2, 3] ?_
 refine AW.jo h (fun _ => [(2, .ptr 0 6 0 0), (3, .ptr 1 3 0 0)]) (fun _ => [vE p0.enc, vE p1.enc]) (fun oJ2 h hJ2 => ?_) fun ⟨⟩ h => ?_
 ·refine AW.ro ?_
  refine AW.ks [0, 1] [2, 3, 17] ?_
  refine AW.tt h (fun hb3 h => ?_) fun hb3 h => ?_
  ·refine AW.ro ?_
   refine cm h tree_natural_ok fun r4 hx5 h => ?_
   refine AW.ks [0, 1] [2, 3, 21] ?_
   refine AW.tk h (fun hb6 h => ?_) fun hb6 h => ?_
   ·refine AW.ro ?_
    refine AW.ret ?_
    have h := up h hJ2
    cases h; refine nz ?_; exact .same _
   exact jo [0, 1] h
  refine AW.jn h (fun v7_0 => [(2, .ptr 0 6 0 0), (3, .ptr 1 3 0 0), (38, vB v7_0)]) (fun v7_0 => [vE p0.enc, vE p1.enc]) (fun oJ8 h => ?_) fun v7_0 h => ?_
  ·refine AW.rp ?_
   refine sK h (fun hb9 h => ?_) fun hb9 h => ?_
   ·exact ja [0, 1] h
   refine sK h (fun hb10 h => ?_) fun hb10 h => ?_
   ·exact ja [0, 1] h
   exact ja [0, 1] h
  refine AW.tk h (fun hb11 h => ?_) fun hb11 h => ?_
  ·refine AW.ro ?_
   refine AW.ret ?_
   have h := up h hJ2
   cases h; refine nz ?_; exact .same _
  exact jo [0, 1] h
 refine AW.ro ?_
 refine cm h tree_shape_ok fun r12 hx13 h => ?_
 refine AW.ks [0, 1] [2, 3, 5, 6] ?_
 refine AW.jo h (fun _ => [(2, .ptr 0 6 0 0), (3, .ptr 1 3 0 0), (6, nilV i64V r12.2)]) (fun _ => [vE p0.enc, vE p1.enc]) (fun oJ15 h hJ15 => ?_) fun ⟨⟩ h => ?_
 ·refine AW.jn h (fun v16_0 => [(2, .ptr 0 6 0 0), (3, .ptr 1 3 0 0), (6, nilV i64V r12.2), (70, vB v16_0)]) (fun v16_0 => [vE p0.enc, vE p1.enc]) (fun oJ17 h => ?_) fun v16_0 h => ?_
  ·refine AW.rp ?_
   refine sK h (fun hb18 h => ?_) fun hb18 h => ?_
   ·refine cm h tree_Name_ok fun r19 hx20 h => ?_
    refine sK h (fun hb21 h => ?_) fun hb21 h => ?_
    ·exact ja [0, 1] h
    exact ja [0, 1] h
   refine sK h (fun hb22 h => ?_) fun hb22 h => ?_
   ·refine sK h (fun hb23 h => ?_) fun hb23 h => ?_
    ·exact ja [0, 1] h
    exact ja [0, 1] h
   exact ja [0, 1] h
  refine AW.tk h (fun hb24 h => ?_) fun hb24 h => ?_
  ·refine AW.ro ?_
   refine AW.ret ?_
   have h := up h hJ15
   cases h; refine nz ?_; exact .same _
  exact jo [0, 1] h
 refine AW.jo h (fun (v25_0, v25_1) => [(2, .ptr 0 6 0 0), (3, .ptr 1 3 0 0), (6, vL i64V v25_0)]) (fun (v25_0, v25_1) => [vE p0.enc, vE v25_1.enc]) (fun oJ26 h hJ26 => ?_) fun ⟨v25_0, v25_1⟩ h => ?_
 ·refine AW.ro ?_
  refine AW.ks [0, 1] [2, 3, 6, 72] ?_
  refine AW.block ?_
  refine AW.jn h (fun v27_0 => [(2, .ptr 0 6 0 0), (3, .ptr 1 3 0 0), (6, nilV i64V r12.2), (72, vI p0.op), (73, vB v27_0)]) (fun v27_0 => [vE p0.enc, vE p1.enc]) (fun oJ28 h => ?_) fun v27_0 h => ?_
  ·refine AW.ro ?_
   refine AW.ks [0, 1] [2, 3, 6, 72, 73] ?_
   refine AW.tt h (fun hb29 h => ?_) fun hb29 h => ?_
   ·refine AW.sk ?_
    exact ja [0, 1] h
   refine AW.rp ?_
   exact ja [0, 1] h
  refine AW.tt h (fun hb30 h => ?_) fun hb30 h => ?_
  ·refine AW.jo h (fun _ => [(2, .ptr 0 6 0 0), (3, .ptr 1 3 0 0), (6, nilV i64V r12.2)]) (fun _ => [vE p0.enc, vE p1.enc]) (fun oJ32 h hJ32 => ?_) fun ⟨⟩ h => ?_
   ·refine AW.jn h (fun v33_0 => [(2, .ptr 0 6 0 0), (3, .ptr 1 3 0 0), (6, nilV i64V r12.2), (85, vB v33_0)]) (fun v33_0 => [vE p0.enc, vE p1.enc]) (fun oJ34 h => ?_) fun v33_0 h => ?_
    ·refine AW.rp ?_
     refine cm h tree_Name_ok fun r35 hx36 h => ?_
     refine sK h (fun hb37 h => ?_) fun hb37 h => ?_
     ·exact ja [0, 1] h
     exact ja [0, 1] h
    refine AW.tk h (fun hb38 h => ?_) fun hb38 h => ?_
    ·refine AW.ro ?_
     refine AW.ret ?_
     have h := up h hJ32
     have h := up h hJ26
     cases h; refine nz ?_; exact .same _
    exact jo [0, 1] h
   refine AW.ro ?_
   refine AW.ks [0, 1] [2, 3, 6, 88, 89] ?_
   apply bE h; intro _ hx43 h; have hx43 := must_none hx43
   refine AW.ks [0, 1] [2, 3, 6, 88, 89] ?_
   refine AW.lm h (fun e45_0 => [(2, .ptr 0 6 0 0), (3, .ptr 1 3 0 0), (6, accV 2 1 ((e45_0.map i64V).map (·.map .d)))]) (fun e45_0 => [vE p0.enc, vE p1.enc, accO 1 ((e45_0.map i64V).map (·.map .d))]) (fun (i44_0, i44_1) => [(2, .ptr 0 6 0 0), (3, .ptr 1 3 0 0), (6, accV 2 1 ((i44_1.map i64V).map (·.map .d))), (88, vI (p0.kids.length : Int)), (89, vI i44_0)]) (fun (i44_0, i44_1) => [vE p0.enc, vE p1.enc, accO 1 ((i44_1.map i64V).map (·.map .d))]) [0, 1, 1002] (fun oJ47 again ⟨i44_0, i44_1⟩ h => ?_) fun e45_0 h => ?_
   ·try dsimp only at h
    refine AW.ro ?_
    refine AW.ks [0, 1, 2] [2, 3, 6, 88, 89, 90] ?_
    refine AW.one ?_
    refine AW.tt h (fun hb48 h => ?_) fun hb48 h => ?_
    ·refine AW.sk ?_
     refine AW.ks [0, 1, 2] [2, 3, 6, 88, 89] ?_
     refine AW.one ?_
     refine AW.block ?_
     refine AW.rp ?_
     refine ag (f := i64V) h fun l49 hx50 h => ?_
     refine AW.ks [0, 1, 5] [2, 3, 6, 88, 89] ?_
     refine AW.rp ?_
     exact na [0, 1, 2] h
    refine AW.ex ?_
    exact ja [0, 1, 2] h
   refine JoinQ.mkS (e45_0, p1) [0, 1] [2] [(6, .d (slD i64V e45_0))] [] (Option.some.inj h).symm (by simp only [go_sem, reduceEqDiff, reduceAdd, reduceSub, reduceMul, reduceLeDiff, reduceLT, Nat.reduceBEq, reduceIte, sealL_cons, sealL_nil]; exact sealAcc (by simp only [go_sem, reduceEqDiff, reduceAdd, reduceSub, reduceMul, reduceLeDiff, reduceLT, Nat.reduceBEq, reduceIte])) (by simp only [go_sem, reduceEqDiff, reduceAdd, reduceSub, reduceMul, reduceLeDiff, reduceLT, Nat.reduceBEq, reduceIte, sealH_cons, sealH_nil]) (by simp only [go_sem, reduceEqDiff, reduceAdd, reduceSub, reduceMul, reduceLeDiff, reduceLT, Nat.reduceBEq, reduceIte])
  refine AW.ro ?_
  refine AW.ks [0, 1] [2, 3, 6, 72, 95] ?_
  refine AW.tt h (fun hb51 h => ?_) fun hb51 h => ?_
  ·refine AW.jo h (fun _ => [(2, .ptr 0 6 0 0), (3, .ptr 1 3 0 0), (6, nilV i64V r12.2)]) (fun _ => [vE p0.enc, vE p1.enc]) (fun oJ53 h hJ53 => ?_) fun ⟨⟩ h => ?_
   ·refine AW.jn h (fun v54_0 => [(2, .ptr 0 6 0 0), (3, .ptr 1 3 0 0), (6, nilV i64V r12.2), (105, vB v54_0)]) (fun v54_0 => [vE p0.enc, vE p1.enc]) (fun oJ55 h => ?_) fun v54_0 h => ?_
    ·refine AW.rp ?_
     refine sK h (fun hb56 h => ?_) fun hb56 h => ?_
     ·exact ja [0, 1] h
     exact ja [0, 1] h
    refine AW.tk h (fun hb57 h => ?_) fun hb57 h => ?_
    ·refine AW.ro ?_
     refine AW.ret ?_
     have h := up h hJ53
     have h := up h hJ26
     cases h; refine nz ?_; exact .same _
    exact jo [0, 1] h
   refine AW.ro ?_
   refine AW.ks [0, 1] [2, 3, 6, 7] ?_
   refine AW.one ?_
   refine AW.ro ?_
   refine AW.ks [0, 1] [2, 3, 6, 7, 8] ?_
   apply bE h; intro _ hx62 h; have hx62 := must_none hx62
   refine AW.ks [0, 1] [2, 3, 6, 7, 8] ?_
   refine AW.lp h (fun e64_0 => [(2, .ptr 0 6 0 0), (3, .ptr 1 3 0 0), (6, accV 2 1 ((e64_0.map i64V).map (·.map .d)))]) (fun e64_0 => [vE p0.enc, vE p1.enc, accO 1 ((e64_0.map i64V).map (·.map .d))]) (fun (i63_0, i63_1) => [(2, .ptr 0 6 0 0), (3, .ptr 1 3 0 0), (6, accV 2 1 ((i63_1.map i64V).map (·.map .d))), (7, vI (IntKind.wrap .i64 ((p0.kids.length : Int) - (1 : Int)))), (8, vI i63_0)]) (fun (i63_0, i63_1) => [vE p0.enc, vE p1.enc, accO 1 ((i63_1.map i64V).map (·.map .d))]) [0, 1, 1002] (fun oJ66 hJ66 again ⟨i63_0, i63_1⟩ h => ?_) fun e64_0 h => ?_
   ·try dsimp only at h
    refine AW.one ?_
    refine AW.ro ?_
    refine AW.ks [0, 1, 2] [2, 3, 6, 7, 8, 112] ?_
    refine AW.tt h (fun hb67 h => ?_) fun hb67 h => ?_
    ·refine AW.sk ?_
     refine AW.ks [0, 1, 2] [2, 3, 6, 7, 8] ?_
     refine AW.jo h (fun v68_0 => [(2, .ptr 0 6 0 0), (3, .ptr 1 3 0 0), (6, accV 2 1 ((v68_0.map i64V).map (·.map .d))), (7, vI (IntKind.wrap .i64 ((p0.kids.length : Int) - (1 : Int)))), (8, vI i63_0)]) (fun v68_0 => [vE p0.enc, vE p1.enc, accO 1 ((v68_0.map i64V).map (·.map .d))]) (fun oJ69 h hJ69 => ?_) fun v68_0 h => ?_
     ·refine AW.block ?_
      refine AW.ro ?_
      refine bx h fun x70 h0 h1 h => ?_
      refine AW.ks [0, 1, 2, 8] [2, 3, 6, 7, 8, 9] ?_
      refine AW.jo h (fun _ => [(2, .ptr 0 6 0 0), (3, .ptr 1 3 0 0), (6, accV 2 1 ((i63_1.map i64V).map (·.map .d))), (7, vI (IntKind.wrap .i64 ((p0.kids.length : Int) - (1 : Int)))), (8, vI i63_0), (9, .ptr 3 6 0 0)]) (fun _ => [vE p0.enc, vE p1.enc, accO 1 ((i63_1.map i64V).map (·.map .d)), vE x70.enc]) (fun oJ73 h hJ73 => ?_) fun ⟨⟩ h => ?_
      ·refine AW.jn h (fun v74_0 => [(2, .ptr 0 6 0 0), (3, .ptr 1 3 0 0), (6, accV 2 1 ((i63_1.map i64V).map (·.map .d))), (7, vI (IntKind.wrap .i64 ((p0.kids.length : Int) - (1 : Int)))), (8, vI i63_0), (9, .ptr 3 6 0 0), (133, vB v74_0)]) (fun v74_0 => [vE p0.enc, vE p1.enc, accO 1 ((i63_1.map i64V).map (·.map .d)), vE x70.enc]) (fun oJ75 h => ?_) fun v74_0 h => ?_
       ·refine AW.rp ?_
        refine sK h (fun hb76 h => ?_) fun hb76 h => ?_
        ·refine sK h (fun hb77 h => ?_) fun hb77 h => ?_
         ·exact ja [0, 1, 2, 3] h
         exact ja [0, 1, 2, 3] h
        exact ja [0, 1, 2, 3] h
       refine AW.tk h (fun hb78 h => ?_) fun hb78 h => ?_
       ·refine AW.ro ?_
        refine AW.ret ?_
        have h := up h hJ73
        have h := up h hJ69
        have h := up h hJ66
        have h := up h hJ26
        cases h; refine nz ?_; exact .same _
       exact jo [0, 1, 2, 3] h
      refine AW.one ?_
      refine AW.ro ?_
      refine bb h fun s79 hx80 h => ?_
      refine AW.ks [0, 1, 2, 3] [2, 3, 6, 7, 8, 9, 137, 138, 139] ?_
      refine AW.lp h (fun _ => [(2, .ptr 0 6 0 0), (3, .ptr 1 3 0 0), (6, accV 2 1 ((i63_1.map i64V).map (·.map .d))), (7, vI (IntKind.wrap .i64 ((p0.kids.length : Int) - (1 : Int)))), (8, vI i63_0)]) (fun _ => [vE p0.enc, vE p1.enc, accO 1 ((i63_1.map i64V).map (·.map .d))]) (fun i81_0 => [(2, .ptr 0 6 0 0), (3, .ptr 1 3 0 0), (6, accV 2 1 ((i63_1.map i64V).map (·.map .d))), (7, vI (IntKind.wrap .i64 ((p0.kids.length : Int) - (1 : Int)))), (8, vI i63_0), (9, .ptr 3 6 0 0), (137, vL NodeA.enc s79), (138, vI (s79.length : Int)), (139, vI i81_0)]) (fun i81_0 => [vE p0.enc, vE p1.enc, accO 1 ((i63_1.map i64V).map (·.map .d)), vE x70.enc]) [0, 1, 2, 3] (fun oJ84 hJ84 again i81_0 h => ?_) fun ⟨⟩ h => ?_
      ·refine AW.ro ?_
       refine AW.ks [0, 1, 2, 3] [2, 3, 6, 7, 8, 9, 137, 138, 139, 140] ?_
       refine AW.one ?_
       refine AW.tt h (fun hb85 h => ?_) fun hb85 h => ?_
       ·refine AW.sk ?_
        refine AW.ks [0, 1, 2, 3] [2, 3, 6, 7, 8, 9, 137, 138, 139] ?_
        refine AW.jo h (fun _ => [(2, .ptr 0 6 0 0), (3, .ptr 1 3 0 0), (6, accV 2 1 ((i63_1.map i64V).map (·.map .d))), (7, vI (IntKind.wrap .i64 ((p0.kids.length : Int) - (1 : Int)))), (8, vI i63_0), (9, .ptr 3 6 0 0), (137, vL NodeA.enc s79), (138, vI (s79.length : Int)), (139, vI i81_0)]) (fun _ => [vE p0.enc, vE p1.enc, accO 1 ((i63_1.map i64V).map (·.map .d)), vE x70.enc]) (fun oJ87 h hJ87 => ?_) fun ⟨⟩ h => ?_
        ·refine AW.block ?_
         refine AW.ro ?_
         refine bx h fun x88 h0 h1 h => ?_
         refine AW.ks [0, 1, 2, 3, 6] [2, 3, 6, 7, 8, 9, 11, 137, 138, 139] ?_
         refine AW.jn h (fun v90_0 => [(2, .ptr 0 6 0 0), (3, .ptr 1 3 0 0), (6, accV 2 1 ((i63_1.map i64V).map (·.map .d))), (7, vI (IntKind.wrap .i64 ((p0.kids.length : Int) - (1 : Int)))), (8, vI i63_0), (9, .ptr 3 6 0 0), (137, vL NodeA.enc s79), (138, vI (s79.length : Int)), (139, vI i81_0), (152, vB v90_0)]) (fun v90_0 => [vE p0.enc, vE p1.enc, accO 1 ((i63_1.map i64V).map (·.map .d)), vE x70.enc]) (fun oJ91 h => ?_) fun v90_0 h => ?_
         ·refine AW.rp ?_
          refine sK h (fun hb92 h => ?_) fun hb92 h => ?_
          ·exact ja [0, 1, 2, 3] h
          exact ja [0, 1, 2, 3] h
         refine AW.tk h (fun hb93 h => ?_) fun hb93 h => ?_
         ·refine AW.ro ?_
          refine AW.ret ?_
          have h := up h hJ87
          have h := up h hJ84
          have h := up h hJ69
          have h := up h hJ66
          have h := up h hJ26
          cases h; refine nz ?_; exact .same _
         exact jo [0, 1, 2, 3] h
        refine AW.rp ?_
        exact na [0, 1, 2, 3] h
       refine AW.ex ?_
       exact jo [0, 1, 2] h
      refine AW.ks [0, 1, 2] [2, 3, 6, 7, 8] ?_
      refine AW.rp ?_
      refine ag (f := i64V) h fun l94 hx95 h => ?_
      exact jo [0, 1, 5] h
     refine AW.rp ?_
     exact na [0, 1, 2] h
    refine AW.ex ?_
    exact jo [0, 1, 2] h
   refine AW.kr [0, 1, 2] [2, 3, 6] ?_
   refine ag (f := i64V) h fun l96 hx97 h => ?_
   refine AW.ks [0, 1, 5] [2, 3, 6] ?_
   refine AW.rp ?_
   refine JoinQ.mkS (l96, (Tree_placeA.mk p1.inDiff p1.inFDiff true)) [0, 1] [2] [(6, .d (slD i64V l96))] [] (Option.some.inj h).symm (by simp only [go_sem, reduceEqDiff, reduceAdd, reduceSub, reduceMul, reduceLeDiff, reduceLT, Nat.reduceBEq, reduceIte, sealL_cons, sealL_nil]; exact sealAcc (by simp only [go_sem, reduceEqDiff, reduceAdd, reduceSub, reduceMul, reduceLeDiff, reduceLT, Nat.reduceBEq, reduceIte])) (by simp only [go_sem, reduceEqDiff, reduceAdd, reduceSub, reduceMul, reduceLeDiff, reduceLT, Nat.reduceBEq, reduceIte, sealH_cons, sealH_nil]) (by simp only [go_sem, reduceEqDiff, reduceAdd, reduceSub, reduceMul, reduceLeDiff, reduceLT, Nat.reduceBEq, reduceIte])
  refine AW.ro ?_
  refine AW.ks [0, 1] [2, 3, 6, 72, 161] ?_
  refine AW.tt h (fun hb98 h => ?_) fun hb98 h => ?_
  ·refine AW.jn h (fun v99_0 => [(2, .ptr 0 6 0 0), (3, .ptr 1 3 0 0), (6, nilV i64V r12.2), (172, vB v99_0)]) (fun v99_0 => [vE p0.enc, vE p1.enc]) (fun oJ100 h => ?_) fun v99_0 h => ?_
   ·refine AW.rp ?_
    refine sK h (fun hb101 h => ?_) fun hb101 h => ?_
    ·exact ja [0, 1] h
    refine sK h (fun hb102 h => ?_) fun hb102 h => ?_
    ·exact ja [0, 1] h
    exact ja [0, 1] h
   refine AW.tk h (fun hb103 h => ?_) fun hb103 h => ?_
   ·refine AW.ro ?_
    refine AW.ret ?_
    have h := up h hJ26
    cases h; refine nz ?_; exact .same _
   refine JoinQ.mkS ((r12.2.getD []), p1) [0, 1] [] [(6, .d (slD i64V (r12.2.getD [])))] [] (Option.some.inj h).symm (by simp only [go_sem, reduceEqDiff, reduceAdd, reduceSub, reduceMul, reduceLeDiff, reduceLT, Nat.reduceBEq, reduceIte, sealL_cons, sealL_nil]; exact sealNil) (by simp only [go_sem, reduceEqDiff, reduceAdd, reduceSub, reduceMul, reduceLeDiff, reduceLT, Nat.reduceBEq, reduceIte, sealH_cons, sealH_nil]) (by simp only [go_sem, reduceEqDiff, reduceAdd, reduceSub, reduceMul, reduceLeDiff, reduceLT, Nat.reduceBEq, reduceIte])
  refine AW.ro ?_
  refine AW.ks [0, 1] [2, 3, 6, 72, 173] ?_
  refine AW.tt h (fun hb104 h => ?_) fun hb104 h => ?_
  ·refine AW.jo h (fun _ => [(2, .ptr 0 6 0 0), (3, .ptr 1 3 0 0), (6, nilV i64V r12.2)]) (fun _ => [vE p0.enc, vE p1.enc]) (fun oJ106 h hJ106 => ?_) fun ⟨⟩ h => ?_
   ·refine AW.jn h (fun v107_0 => [(2, .ptr 0 6 0 0), (3, .ptr 1 3 0 0), (6, nilV i64V r12.2), (180, vB v107_0)]) (fun v107_0 => [vE p0.enc, vE p1.enc]) (fun oJ108 h => ?_) fun v107_0 h => ?_
    ·refine AW.rp ?_
     refine sK h (fun hb109 h => ?_) fun hb109 h => ?_
     ·exact ja [0, 1] h
     exact ja [0, 1] h
    refine AW.tk h (fun hb110 h => ?_) fun hb110 h => ?_
    ·refine AW.ro ?_
     refine AW.ret ?_
     have h := up h hJ106
     have h := up h hJ26
     cases h; refine nz ?_; exact .same _
    exact jo [0, 1] h
   refine AW.rp ?_
   refine JoinQ.mkS ((r12.2.getD []), (Tree_placeA.mk true p1.inFDiff p1.inFlow)) [0, 1] [] [(6, .d (slD i64V (r12.2.getD [])))] [] (Option.some.inj h).symm (by simp only [go_sem, reduceEqDiff, reduceAdd, reduceSub, reduceMul, reduceLeDiff, reduceLT, Nat.reduceBEq, reduceIte, sealL_cons, sealL_nil]; exact sealNil) (by simp only [go_sem, reduceEqDiff, reduceAdd, reduceSub, reduceMul, reduceLeDiff, reduceLT, Nat.reduceBEq, reduceIte, sealH_cons, sealH_nil]) (by simp only [go_sem, reduceEqDiff, reduceAdd, reduceSub, reduceMul, reduceLeDiff, reduceLT, Nat.reduceBEq, reduceIte])
  refine AW.ro ?_
  refine AW.ks [0, 1] [2, 3, 6, 182] ?_
  refine AW.tk h (fun hb111 h => ?_) fun hb111 h => ?_
  ·refine AW.jo h (fun _ => [(2, .ptr 0 6 0 0), (3, .ptr 1 3 0 0), (6, nilV i64V r12.2)]) (fun _ => [vE p0.enc, vE p1.enc]) (fun oJ113 h hJ113 => ?_) fun ⟨⟩ h => ?_
   ·refine AW.jn h (fun v114_0 => [(2, .ptr 0 6 0 0), (3, .ptr 1 3 0 0), (6, nilV i64V r12.2), (199, vB v114_0)]) (fun v114_0 => [vE p0.enc, vE p1.enc]) (fun oJ115 h => ?_) fun v114_0 h => ?_
    ·refine AW.rp ?_
     refine sK h (fun hb116 h => ?_) fun hb116 h => ?_
     ·exact ja [0, 1] h
     refine sK h (fun hb117 h => ?_) fun hb117 h => ?_
     ·exact ja [0, 1] h
     refine bx h fun x118 h0 h1 h => ?_
     refine cm h tree_differentiable_ok fun r120 hx121 h => ?_
     exact ja [0, 1] h
    refine AW.tk h (fun hb122 h => ?_) fun hb122 h => ?_
    ·refine AW.ro ?_
     refine AW.ret ?_
     have h := up h hJ113
     have h := up h hJ26
     cases h; refine nz ?_; exact .same _
    exact jo [0, 1] h
   refine AW.rp ?_
   refine JoinQ.mkS ((r12.2.getD []), (Tree_placeA.mk p1.inDiff true p1.inFlow)) [0, 1] [] [(6, .d (slD i64V (r12.2.getD [])))] [] (Option.some.inj h).symm (by simp only [go_sem, reduceEqDiff, reduceAdd, reduceSub, reduceMul, reduceLeDiff, reduceLT, Nat.reduceBEq, reduceIte, sealL_cons, sealL_nil]; exact sealNil) (by simp only [go_sem, reduceEqDiff, reduceAdd, reduceSub, reduceMul, reduceLeDiff, reduceLT, Nat.reduceBEq, reduceIte, sealH_cons, sealH_nil]) (by simp only [go_sem, reduceEqDiff, reduceAdd, reduceSub, reduceMul, reduceLeDiff, reduceLT, Nat.reduceBEq, reduceIte])
  refine JoinQ.mkS ((r12.2.getD []), p1) [0, 1] [] [(6, .d (slD i64V (r12.2.getD [])))] [] (Option.some.inj h).symm (by simp only [go_sem, reduceEqDiff, reduceAdd, reduceSub, reduceMul, reduceLeDiff, reduceLT, Nat.reduceBEq, reduceIte, sealL_cons, sealL_nil]; exact sealNil) (by simp only [go_sem, reduceEqDiff, reduceAdd, reduceSub, reduceMul, reduceLeDiff, reduceLT, Nat.reduceBEq, reduceIte, sealH_cons, sealH_nil]) (by simp only [go_sem, reduceEqDiff, reduceAdd, reduceSub, reduceMul, reduceLeDiff, reduceLT, Nat.reduceBEq, reduceIte])
 try dsimp only at h
 refine AW.one ?_
 refine AW.ro ?_
 refine AW.ks [0, 1] [2, 3, 6, 206] ?_
 refine AW.tk h (fun hb123 h => ?_) fun hb123 h => ?_
 ·refine AW.ro ?_
  refine AW.ret ?_
  cases h; refine nz ?_; exact .same _
 refine AW.ks [0, 1] [2, 3, 6] ?_
 refine AW.one ?_
 refine AW.ro ?_
 refine AW.ks [0, 1] [2, 3, 6, 208, 209, 210] ?_
 refine AW.lp h (fun _ => [(2, .ptr 0 6 0 0)]) (fun _ => [vE p0.enc]) (fun i124_0 => [(2, .ptr 0 6 0 0), (3, .ptr 1 3 0 0), (6, vL i64V v25_0), (208, vL NodeA.enc p0.kids), (209, vI (p0.kids.length : Int)), (210, vI i124_0)]) (fun i124_0 => [vE p0.enc, vE v25_1.enc]) [0, 1] (fun oJ127 hJ127 again i124_0 h => ?_) fun ⟨⟩ h => ?_
 ·refine AW.ro ?_
  refine AW.ks [0, 1] [2, 3, 6, 208, 209, 210, 211] ?_
  refine AW.one ?_
  refine AW.tt h (fun hb128 h => ?_) fun hb128 h => ?_
  ·refine AW.sk ?_
   refine AW.ks [0, 1] [2, 3, 6, 208, 209, 210] ?_
   refine AW.jo h (fun _ => [(2, .ptr 0 6 0 0), (3, .ptr 1 3 0 0), (6, vL i64V v25_0), (208, vL NodeA.enc p0.kids), (209, vI (p0.kids.length : Int)), (210, vI i124_0)]) (fun _ => [vE p0.enc, vE v25_1.enc]) (fun oJ130 h hJ130 => ?_) fun ⟨⟩ h => ?_
   ·refine AW.block ?_
    refine AW.ro ?_
    refine bx h fun x131 h0 h1 h => ?_
    refine AW.ks [0, 1, 5] [2, 3, 6, 12, 13, 208, 209, 210] ?_
    refine AW.jn h (fun v133_0 => [(2, .ptr 0 6 0 0), (3, .ptr 1 3 0 0), (6, vL i64V v25_0), (208, vL NodeA.enc p0.kids), (209, vI (p0.kids.length : Int)), (210, vI i124_0), (228, vB v133_0)]) (fun v133_0 => [vE p0.enc, vE v25_1.enc]) (fun oJ134 h => ?_) fun v133_0 h => ?_
    ·refine AW.rp ?_
     refine pm h tree_Sort_ok fun r135 hx136 h => ?_
     refine bx h fun x137 h0 h1 h => ?_
     refine sK h (fun hb139 h => ?_) fun hb139 h => ?_
     ·exact ja [0, 1] h
     refine pm h (hself52 _ _) fun r140 hx141 h => ?_
     exact ja [0, 1] h
    refine AW.tk h (fun hb142 h => ?_) fun hb142 h => ?_
    ·refine AW.ro ?_
     refine AW.ret ?_
     have h := up h hJ130
     have h := up h hJ127
     cases h; refine nz ?_; exact .same _
    exact jo [0, 1] h
   refine AW.rp ?_
   exact na [0, 1] h
  refine AW.ex ?_
  exact jo [0] h
 refine AW.ks [0] [2] ?_
 refine AW.one ?_
 refine AW.ro ?_
 refine AW.ks [0] [2, 232] ?_
 refine AW.tk h (fun hb143 h => ?_) fun hb143 h => ?_
 ·refine AW.ro ?_
  refine bx h fun x144 h0 h1 h => ?_
  refine sK h (fun hb146 h => ?_) fun hb146 h => ?_
  ·refine AW.ret ?_
   cases h; refine nz ?_; exact .same _
  refine AW.ret ?_
  cases h; refine nz ?_; exact .same _
 refine AW.ks [0] [2] ?_
 refine AW.one ?_
 refine AW.ro ?_
 refine AW.ks [0] [2, 251] ?_
 refine AW.tk h (fun hb147 h => ?_) fun hb147 h => ?_
 ·refine AW.ro ?_
  refine bx h fun x148 h0 h1 h => ?_
  refine AW.kr [5] [14] ?_
  refine sK h (fun hb150 h => ?_) fun hb150 h => ?_
  ·refine sK h (fun hb151 h => ?_) fun hb151 h => ?_
   ·refine AW.ret ?_
    cases h; refine nz ?_; exact .same _
   refine sK h (fun hb152 h => ?_) fun hb152 h => ?_
   ·refine bx h fun x153 h0 h1 h => ?_
    refine AW.ret ?_
    cases h; refine nz ?_; exact .same _
   refine AW.ret ?_
   cases h; refine nz ?_; exact .same _
  refine AW.ret ?_
  cases h; refine nz ?_; exact .same _
 refine AW.kr [] [] ?_
 refine AW.ret ?_
 cases h; refine nz ?_; exact .same _
def tree_formed (K : Nat) (p0 : NodeA) (p1 : Tree_placeA) : Option Bool := iter K (fun self q => tree_formed_body K self q.1 q.2) (p0, p1)
theorem key_tree_formed {K : Nat} (k : Nat) : (∀ (q : NodeA × Tree_placeA) (r : Bool), iter k (fun self q => tree_formed_body K self q.1 q.2) q = some r → Cn Tryz.prog 52 [aggV q.1.enc, aggV q.2.enc] (.d (.val (.bool r)))) := by
 induction k with
 | zero => exact fun q r h => by cases h
 | succ k ih => exact fun q r h => tree_formed_step K _ ih q.1 q.2 r h
theorem tree_formed_ok {K : Nat} {p0 : NodeA} {p1 : Tree_placeA} {r : Bool} (h : tree_formed K p0 p1 = some r) : Cn Tryz.prog 52 [aggV p0.enc, aggV p1.enc] (.d (.val (.bool r))) := (key_tree_formed K) (p0, p1) r h
/-! ### isochrone/tree.within -/
def tree_within_body (K : Nat) (self51 : (NodeA × Int × Int) → Option (Bool × Int)) (p0 : NodeA) (p1 : Int) (p2 : Int) : Option (Bool × Int) := ((
  ((
   if (decide ((IntKind.wrap .i64 (p1 - (1 : Int))) < (0 : Int))) then
    some true
   else
    some (decide (p2 ≤ (0 : Int)))) : Option Bool).bind (fun v3_0 =>
  if v3_0 then
   outM (
    some (false, IntKind.wrap .i64 (p1 - (1 : Int))))
  else
   some (.go ()))) : Option (Out Unit _)).bind (Out.fin fun _ =>
 ((iter (S := Int × Int) (R := Out Int _) K (fun again (i7_0, i7_1) =>
  if (decide (i7_0 < (p0.kids.length : Int))) then
   (idx p0.kids i7_0).bind fun x12 =>
   (self51 (x12, i7_1, IntKind.wrap .i64 (p2 - (1 : Int)))).bind fun r14 =>
   if (!r14.1) then
    outM (
     some (false, r14.2))
   else
    again (IntKind.wrap .i64 (i7_0 + (1 : Int)), r14.2)
  else
   some (.go i7_1)) ((0 : Int), IntKind.wrap .i64 (p1 - (1 : Int)))) : Option (Out Int _)).bind (Out.fin fun e8_0 =>
 some (true, e8_0)))
set_option maxHeartbeats 4000000 in
theorem tree_within_step (K : Nat) (self51 : (NodeA × Int × Int) → Option (Bool × Int)) (hself51 : ∀ (q : NodeA × Int × Int) (r : Bool × Int), self51 q = some r → Cl Tryz.prog 51 [aggV q.1.enc, .ptr 0 1 0 0, .d (.val (.int .i64 q.2.2))] [⟨1, [[.d (.val (.int .i64 q.2.1))]]⟩] (.d (.val (.bool r.1))) [⟨1, [[.d (.val (.int .i64 r.2))]]⟩]) (p0 : NodeA) (p1 : Int) (p2 : Int) (r : Bool × Int) (h : tree_within_body K self51 p0 p1 p2 = some r) : Cl Tryz.prog 51 [aggV p0.enc, .ptr 0 1 0 0, .d (.val (.int .i64 p2))] [⟨1, [[.d (.val (.int .i64 p1))]]⟩] (.d (.val (.bool r.1))) [⟨1, [[.d (.val (.int .i64 r.2))]]⟩] := by
 refine Cl.ofA mixed Tryz.func51 rfl Tryz.call51 Tryz.ntmps51 Tryz.results51 (by simp) rfl (by simp only [go_sem, reduceEqDiff, reduceAdd, reduceSub, reduceMul, reduceLeDiff, reduceLT, Nat.reduceBEq, reduceIte, List.length_cons]) (by simp only [go_sem, reduceEqDiff, reduceAdd, reduceSub, reduceMul, reduceLeDiff, reduceLT, Nat.reduceBEq, reduceIte]) (by simp only [go_sem, reduceEqDiff, reduceAdd, reduceSub, reduceMul, reduceLeDiff, reduceLT, Nat.reduceBEq, reduceIte]) (by simp only [go_sem, reduceEqDiff, reduceAdd, reduceSub, reduceMul, reduceLeDiff, reduceLT, Nat.reduceBEq, reduceIte]) fun hfit => ?_
 unfold tree_within_body at h
 refine AW.kr [0] [0, 1, 2] ?_
 refine AW.kr [0, 1] [1, 2, 3] ?_
 refine AW.ks [0, 1] [1, 2, 3] ?_
 refine AW.jo h (fun _ => [(1, .ptr 0 1 0 0), (2, vI p2), (3, .ptr 1 6 0 0)]) (fun _ => [vE1 (vI (IntKind.wrap .i64 (p1 - (1 : Int)))), vE p0.enc]) (fun oJ2 h hJ2 => ?_) fun ⟨⟩ h => ?_
 ·refine AW.jn h (fun v3_0 => [(1, .ptr 0 1 0 0), (2, vI p2), (3, .ptr 1 6 0 0), (21, vB v3_0)]) (fun v3_0 => [vE1 (vI (IntKind.wrap .i64 (p1 - (1 : Int)))), vE p0.enc]) (fun oJ4 h => ?_) fun v3_0 h => ?_
  ·refine AW.rp ?_
   refine sK h (fun hb5 h => ?_) fun hb5 h => ?_
   ·exact ja [0, 1] h
   exact ja [0, 1] h
  refine AW.tk h (fun hb6 h => ?_) fun hb6 h => ?_
  ·refine AW.ro ?_
   refine AW.ret ?_
   have h := up h hJ2
   cases h; refine nz ?_; exact ⟨.same _, ⟨⟨.same _, trivial⟩, trivial⟩⟩
  exact jo [0, 1] h
 refine AW.one ?_
 refine AW.ro ?_
 refine AW.ks [0] [1, 2, 23, 24, 25] ?_
 refine AW.lp h (fun e8_0 => []) (fun e8_0 => [vE1 (vI e8_0)]) (fun (i7_0, i7_1) => [(1, .ptr 0 1 0 0), (2, vI p2), (23, vL NodeA.enc p0.kids), (24, vI (p0.kids.length : Int)), (25, vI i7_0)]) (fun (i7_0, i7_1) => [vE1 (vI i7_1)]) [0] (fun oJ10 hJ10 again ⟨i7_0, i7_1⟩ h => ?_) fun e8_0 h => ?_
 ·try dsimp only at h
  refine AW.ro ?_
  refine AW.ks [0] [1, 2, 23, 24, 25, 26] ?_
  refine AW.one ?_
  refine AW.tt h (fun hb11 h => ?_) fun hb11 h => ?_
  ·refine AW.sk ?_
   refine AW.ks [0] [1, 2, 23, 24, 25] ?_
   refine AW.one ?_
   refine AW.block ?_
   refine AW.ro ?_
   refine bx h fun x12 h0 h1 h => ?_
   refine AW.kr [0, 3] [1, 2, 8, 23, 24, 25] ?_
   apply bE h; intro r14 hx15 h
   have hc := nx (hself51 _ _ hx15)
   refine callK_loc [0] hc (by simp only [go_sem, reduceEqDiff, reduceAdd, reduceSub, reduceMul, reduceLeDiff, reduceLT, Nat.reduceBEq, reduceIte]) (by simp) (by simp only [go_sem, reduceEqDiff, reduceAdd, reduceSub, reduceMul, reduceLeDiff, reduceLT, Nat.reduceBEq, reduceIte]) ?_
   refine ns ?_
   refine AW.ks [0] [1, 2, 23, 24, 25, 34] ?_
   refine AW.tk h (fun hb16 h => ?_) fun hb16 h => ?_
   ·refine AW.ro ?_
    refine AW.ret ?_
    have h := up h hJ10
    cases h; refine nz ?_; exact ⟨.same _, ⟨⟨.same _, trivial⟩, trivial⟩⟩
   refine AW.ks [0] [1, 2, 23, 24, 25] ?_
   refine AW.rp ?_
   exact na [0] h
  refine AW.ex ?_
  exact jo [0] h
 refine AW.kr [0] [] ?_
 refine AW.ret ?_
 cases h; refine nz ?_; exact ⟨.same _, ⟨⟨.same _, trivial⟩, trivial⟩⟩
def tree_within (K : Nat) (p0 : NodeA) (p1 : Int) (p2 : Int) : Option (Bool × Int) := iter K (fun self q => tree_within_body K self q.1 q.2.1 q.2.2) (p0, p1, p2)
theorem key_tree_within {K : Nat} (k : Nat) : (∀ (q : NodeA × Int × Int) (r : Bool × Int), iter k (fun self q => tree_within_body K self q.1 q.2.1 q.2.2) q = some r → Cl Tryz.prog 51 [aggV q.1.enc, .ptr 0 1 0 0, .d (.val (.int .i64 q.2.2))] [⟨1, [[.d (.val (.int .i64 q.2.1))]]⟩] (.d (.val (.bool r.1))) [⟨1, [[.d (.val (.int .i64 r.2))]]⟩]) := by
 induction k with
 | zero => exact fun q r h => by cases h
 | succ k ih => exact fun q r h => tree_within_step K _ ih q.1 q.2.1 q.2.2 r h
theorem tree_within_ok {K : Nat} {p0 : NodeA} {p1 : Int} {p2 : Int} {r : Bool × Int} (h : tree_within K p0 p1 p2 = some r) : Cl Tryz.prog 51 [aggV p0.enc, .ptr 0 1 0 0, .d (.val (.int .i64 p2))] [⟨1, [[.d (.val (.int .i64 p1))]]⟩] (.d (.val (.bool r.1))) [⟨1, [[.d (.val (.int .i64 r.2))]]⟩] := (key_tree_within K) (p0, p1, p2) r h
/-! ### isochrone/tree.Check -/
def tree_Check (K : Nat) (p0 : NodeA) (p1 : Int) : Option Int := ((
  ((
   if (decide (p1 < (1 : Int))) then
    some true
   else
    some (decide ((3 : Int) < p1))) : Option Bool).bind (fun v3_0 =>
  if v3_0 then
   outM (
    some (1 : Int))
  else
   some (.go ()))) : Option (Out Unit _)).bind (Out.fin fun _ =>
 (tree_within K p0 (4000 : Int) (60 : Int)).bind fun r7 =>
 if (!r7.1) then
  some (2 : Int)
 else
  (tree_Sort K p0.op).bind fun r10 =>
  if (r10 != p1) then
   some (80 : Int)
  else
   (tree_formed K p0 (Tree_placeA.mk false false false)).bind fun r13 =>
   if (!r13) then
    some (3 : Int)
   else
    some (0 : Int))
set_option maxHeartbeats 4000000 in
theorem tree_Check_ok {K : Nat} {p0 : NodeA} {p1 : Int} {r : Int} (h : tree_Check K p0 p1 = some r) : Cn Tryz.prog 24 [aggV p0.enc, .d (.val (.int .i64 p1))] (.d (.val (.int .i64 r))) := by
 refine Cn.oz Tryz.func24 Tryz.call24 Tryz.ntmps24 Tryz.results24 fun hfit => ?_
 unfold tree_Check at h
 refine AW.kr [] [0, 1] ?_
 refine AW.ks [0] [1, 2] ?_
 refine AW.jo h (fun _ => [(1, vI p1), (2, .ptr 0 6 0 0)]) (fun _ => [vE p0.enc]) (fun oJ2 h hJ2 => ?_) fun ⟨⟩ h => ?_
 ·refine AW.jn h (fun v3_0 => [(1, vI p1), (2, .ptr 0 6 0 0), (11, vB v3_0)]) (fun v3_0 => [vE p0.enc]) (fun oJ4 h => ?_) fun v3_0 h => ?_
  ·refine AW.rp ?_
   refine sK h (fun hb5 h => ?_) fun hb5 h => ?_
   ·exact ja [0] h
   exact ja [0] h
  refine AW.tk h (fun hb6 h => ?_) fun hb6 h => ?_
  ·refine AW.ro ?_
   refine AW.ret ?_
   have h := up h hJ2
   cases h; refine nz ?_; exact .same _
  exact jo [0] h
 refine AW.ro ?_
 refine AW.ks [0, 1] [1, 2, 5] ?_
 refine AW.one ?_
 refine AW.ro ?_
 apply bE h; intro r7 hx8 h
 have hc := nx (tree_within_ok (h := hx8))
 refine callK_loc [1] hc (by simp only [go_sem, reduceEqDiff, reduceAdd, reduceSub, reduceMul, reduceLeDiff, reduceLT, Nat.reduceBEq, reduceIte]) (by simp) (by simp only [go_sem, reduceEqDiff, reduceAdd, reduceSub, reduceMul, reduceLeDiff, reduceLT, Nat.reduceBEq, reduceIte]) ?_
 refine ns ?_
 refine AW.ks [0] [1, 2, 14] ?_
 refine AW.tk h (fun hb9 h => ?_) fun hb9 h => ?_
 ·refine AW.ro ?_
  refine AW.ret ?_
  cases h; refine nz ?_; exact .same _
 refine AW.ks [0] [1, 2] ?_
 refine AW.one ?_
 refine AW.ro ?_
 refine cm h tree_Sort_ok fun r10 hx11 h => ?_
 refine AW.ks [0] [2, 19] ?_
 refine AW.tk h (fun hb12 h => ?_) fun hb12 h => ?_
 ·refine AW.ro ?_
  refine AW.ret ?_
  cases h; refine nz ?_; exact .same _
 refine AW.ks [0] [2] ?_
 refine AW.one ?_
 refine AW.ro ?_
 refine cm h tree_formed_ok fun r13 hx14 h => ?_
 refine AW.ks [] [23] ?_
 refine AW.tk h (fun hb15 h => ?_) fun hb15 h => ?_
 ·refine AW.ro ?_
  refine AW.ret ?_
  cases h; refine nz ?_; exact .same _
 refine AW.kr [] [] ?_
 refine AW.ret ?_
 cases h; refine nz ?_; exact .same _
/-! ### isochrone/diff.root -/
def diff_root (K : Nat) (p0 : NodeA) : Option (Int × Int) := (tree_Sort K p0.op).bind fun r1 =>
 ((
  ((
   if (r1 == (0 : Int)) then
    some true
   else
    some (r1 == (4 : Int))) : Option Bool).bind (fun v5_0 =>
  if v5_0 then
   outM (
    some ((0 : Int), (80 : Int)))
  else
   some (.go ()))) : Option (Out Unit _)).bind (Out.fin fun _ =>
 (tree_Check K p0 r1).bind fun r9 =>
 some (r1, r9))
set_option maxHeartbeats 4000000 in
theorem diff_root_ok {K : Nat} {p0 : NodeA} {r : Int × Int} (h : diff_root K p0 = some r) : Cn Tryz.prog 22 [aggV p0.enc] (.tup [.d (.val (.int .i64 r.1)), .d (.val (.int .i64 r.2))]) := by
 refine Cn.oz Tryz.func22 Tryz.call22 Tryz.ntmps22 Tryz.results22 fun hfit => ?_
 unfold diff_root at h
 refine AW.kr [] [0] ?_
 refine AW.kr [0] [1] ?_
 refine cm h tree_Sort_ok fun r1 hx2 h => ?_
 refine AW.ks [0] [1, 4] ?_
 refine AW.jo h (fun _ => [(1, .ptr 0 6 0 0), (4, vI r1)]) (fun _ => [vE p0.enc]) (fun oJ4 h hJ4 => ?_) fun ⟨⟩ h => ?_
 ·refine AW.jn h (fun v5_0 => [(1, .ptr 0 6 0 0), (4, vI r1), (13, vB v5_0)]) (fun v5_0 => [vE p0.enc]) (fun oJ6 h => ?_) fun v5_0 h => ?_
  ·refine AW.rp ?_
   refine sK h (fun hb7 h => ?_) fun hb7 h => ?_
   ·exact ja [0] h
   exact ja [0] h
  refine AW.tk h (fun hb8 h => ?_) fun hb8 h => ?_
  ·refine AW.ro ?_
   refine AW.ret ?_
   have h := up h hJ4
   cases h; refine nz ?_; exact .same _
  exact jo [0] h
 refine AW.ro ?_
 refine cm h tree_Check_ok fun r9 hx10 h => ?_
 refine AW.ret ?_
 cases h; refine nz ?_; exact .same _
/-! ### isochrone/diff.Of -/
/-! ### isochrone/static.Uses -/
def static_Uses_body (K : Nat) (self32 : (NodeA × (List Int)) → Option Bool) (p0 : NodeA) (p1 : List Int) : Option Bool := ((iter (S := Int) (R := Out Unit _) K (fun again i1_0 =>
  if (decide (i1_0 < (p1.length : Int))) then
   (idx p1 i1_0).bind fun x6 =>
   if (p0.op == x6) then
    outM (
     some true)
   else
    again (IntKind.wrap .i64 (i1_0 + (1 : Int)))
  else
   some (.go ())) (0 : Int)) : Option (Out Unit _)).bind (Out.fin fun _ =>
 ((iter (S := Int) (R := Out Unit _) K (fun again i9_0 =>
  if (decide (i9_0 < (p0.kids.length : Int))) then
   (idx p0.kids i9_0).bind fun x14 =>
   (self32 (x14, p1)).bind fun r16 =>
   if r16 then
    outM (
     some true)
   else
    again (IntKind.wrap .i64 (i9_0 + (1 : Int)))
  else
   some (.go ())) (0 : Int)) : Option (Out Unit _)).bind (Out.fin fun _ =>
 some false))
set_option maxHeartbeats 4000000 in
theorem static_Uses_step (K : Nat) (self32 : (NodeA × (List Int)) → Option Bool) (hself32 : ∀ (q : NodeA × (List Int)) (r : Bool), self32 q = some r → Cn Tryz.prog 32 [aggV q.1.enc, .d (slD i64V q.2)] (.d (.val (.bool r)))) (p0 : NodeA) (p1 : List Int) (r : Bool) (h : static_Uses_body K self32 p0 p1 = some r) : Cn Tryz.prog 32 [aggV p0.enc, .d (slD i64V p1)] (.d (.val (.bool r))) := by
 refine Cn.oz Tryz.func32 Tryz.call32 Tryz.ntmps32 Tryz.results32 fun hfit => ?_
 unfold static_Uses_body at h
 refine AW.kr [] [0, 1] ?_
 refine AW.ks [0] [1, 2] ?_
 refine AW.one ?_
 refine AW.ro ?_
 refine AW.ks [0] [1, 2, 9, 10, 11] ?_
 refine AW.lp h (fun _ => [(1, vL i64V p1), (2, .ptr 0 6 0 0)]) (fun _ => [vE p0.enc]) (fun i1_0 => [(1, vL i64V p1), (2, .ptr 0 6 0 0), (9, vL i64V p1), (10, vI (p1.length : Int)), (11, vI i1_0)]) (fun i1_0 => [vE p0.enc]) [0] (fun oJ4 hJ4 again i1_0 h => ?_) fun ⟨⟩ h => ?_
 ·refine AW.ro ?_
  refine AW.ks [0] [1, 2, 9, 10, 11, 12] ?_
  refine AW.one ?_
  refine AW.tt h (fun hb5 h => ?_) fun hb5 h => ?_
  ·refine AW.sk ?_
   refine AW.ks [0] [1, 2, 9, 10, 11] ?_
   refine AW.one ?_
   refine AW.block ?_
   refine AW.ro ?_
   refine bx h fun x6 h0 h1 h => ?_
   refine AW.kr [0] [1, 2, 6, 9, 10, 11] ?_
   refine AW.ks [0] [1, 2, 9, 10, 11, 18] ?_
   refine AW.tk h (fun hb8 h => ?_) fun hb8 h => ?_
   ·refine AW.ro ?_
    refine AW.ret ?_
    have h := up h hJ4
    cases h; refine nz ?_; exact .same _
   refine AW.ks [0] [1, 2, 9, 10, 11] ?_
   refine AW.rp ?_
   exact na [0] h
  refine AW.ex ?_
  exact jo [0] h
 refine AW.ks [0] [1, 2] ?_
 refine AW.one ?_
 refine AW.ro ?_
 refine AW.ks [] [1, 21, 22, 23] ?_
 refine AW.lp h (fun _ => []) (fun _ => []) (fun i9_0 => [(1, vL i64V p1), (21, vL NodeA.enc p0.kids), (22, vI (p0.kids.length : Int)), (23, vI i9_0)]) (fun i9_0 => []) [] (fun oJ12 hJ12 again i9_0 h => ?_) fun ⟨⟩ h => ?_
 ·refine AW.ro ?_
  refine AW.ks [] [1, 21, 22, 23, 24] ?_
  refine AW.one ?_
  refine AW.tt h (fun hb13 h => ?_) fun hb13 h => ?_
  ·refine AW.sk ?_
   refine AW.ks [] [1, 21, 22, 23] ?_
   refine AW.one ?_
   refine AW.block ?_
   refine AW.ro ?_
   refine bx h fun x14 h0 h1 h => ?_
   refine AW.kr [2] [1, 8, 21, 22, 23] ?_
   refine cm h (hself32 _ _) fun r16 hx17 h => ?_
   refine AW.ks [] [1, 21, 22, 23, 29] ?_
   refine AW.tk h (fun hb18 h => ?_) fun hb18 h => ?_
   ·refine AW.ro ?_
    refine AW.ret ?_
    have h := up h hJ12
    cases h; refine nz ?_; exact .same _
   refine AW.ks [] [1, 21, 22, 23] ?_
   refine AW.rp ?_
   exact na [] h
  refine AW.ex ?_
  exact jo [] h
 refine AW.kr [] [] ?_
 refine AW.ret ?_
 cases h; refine nz ?_; exact .same _
def static_Uses (K : Nat) (p0 : NodeA) (p1 : List Int) : Option Bool := iter K (fun self q => static_Uses_body K self q.1 q.2) (p0, p1)
theorem key_static_Uses {K : Nat} (k : Nat) : (∀ (q : NodeA × (List Int)) (r : Bool), iter k (fun self q => static_Uses_body K self q.1 q.2) q = some r → Cn Tryz.prog 32 [aggV q.1.enc, .d (slD i64V q.2)] (.d (.val (.bool r)))) := by
 induction k with
 | zero => exact fun q r h => by cases h
 | succ k ih => exact fun q r h => static_Uses_step K _ ih q.1 q.2 r h
theorem static_Uses_ok {K : Nat} {p0 : NodeA} {p1 : List Int} {r : Bool} (h : static_Uses K p0 p1 = some r) : Cn Tryz.prog 32 [aggV p0.enc, .d (slD i64V p1)] (.d (.val (.bool r))) := (key_static_Uses K) (p0, p1) r h
/-! ### isochrone/diff.Push$1 -/
def diff_Push_1 (K : Nat) (p0 : NodeA) : Option NodeA := ((
  ((
   if (p0.op != (12 : Int)) then
    some (p0.op != (39 : Int))
   else
    some false) : Option Bool).bind (fun v3_0 =>
  if v3_0 then
   outM (
    some p0)
  else
   some (.go ()))) : Option (Out Unit _)).bind (Out.fin fun _ =>
 (idx p0.kids (0 : Int)).bind fun x7 =>
 (diff_of K x7).bind fun r9 =>
 ((
  ((
   if (!r9.2) then
    some true
   else
    (static_Uses K r9.1 [(12 : Int), (39 : Int)]).bind fun r16 =>
    some r16) : Option Bool).bind (fun v13_0 =>
  if v13_0 then
   outM (
    some p0)
  else
   some (.go ()))) : Option (Out Unit _)).bind (Out.fin fun _ =>
 some r9.1))
set_option maxHeartbeats 4000000 in
theorem diff_Push_1_ok {K : Nat} {p0 : NodeA} {r : NodeA} (h : diff_Push_1 K p0 = some r) : Cn Tryz.prog 31 [aggV p0.enc] (aggV r.enc) := by
 refine Cn.oz Tryz.func31 Tryz.call31 Tryz.ntmps31 Tryz.results31 fun hfit => ?_
 unfold diff_Push_1 at h
 refine AW.kr [] [0] ?_
 refine AW.ks [0, 1] [1, 2] ?_
 refine AW.jo h (fun _ => [(1, .ptr 0 6 0 0), (2, .ptr 1 6 0 0)]) (fun _ => [vE p0.enc, some ⟨6, [[vI (0 : Int), vS (⟨#[]⟩ : ByteArray), vB false, .d (.val (.slice none 0 0)), .d (.val (.slice none 0 0)), .d (.val (.slice none 0 0))]]⟩]) (fun oJ2 h hJ2 => ?_) fun ⟨⟩ h => ?_
 ·refine AW.jn h (fun v3_0 => [(1, .ptr 0 6 0 0), (2, .ptr 1 6 0 0), (12, vB v3_0)]) (fun v3_0 => [vE p0.enc, some ⟨6, [[vI (0 : Int), vS (⟨#[]⟩ : ByteArray), vB false, .d (.val (.slice none 0 0)), .d (.val (.slice none 0 0)), .d (.val (.slice none 0 0))]]⟩]) (fun oJ4 h => ?_) fun v3_0 h => ?_
  ·refine AW.rp ?_
   refine sK h (fun hb5 h => ?_) fun hb5 h => ?_
   ·exact ja [0, 1] h
   exact ja [0, 1] h
  refine AW.tk h (fun hb6 h => ?_) fun hb6 h => ?_
  ·refine AW.ro ?_
   refine AW.ret ?_
   have h := up h hJ2
   cases h; refine nz ?_; exact .same _
  exact jo [0, 1] h
 refine AW.ro ?_
 refine bx h fun x7 h0 h1 h => ?_
 refine cm h diff_of_ok fun r9 hx10 h => ?_
 refine AW.ks [0, 1, 10] [1, 2, 3, 4] ?_
 refine AW.jo h (fun _ => [(2, .ptr 0 6 0 0), (3, .ptr 1 6 0 0)]) (fun _ => [some ⟨6, [[vI (0 : Int), vS (⟨#[]⟩ : ByteArray), vB false, .d (.val (.slice none 0 0)), .d (.val (.slice none 0 0)), .d (.val (.slice none 0 0))]]⟩, vE r9.1.enc]) (fun oJ12 h hJ12 => ?_) fun ⟨⟩ h => ?_
 ·refine AW.jn h (fun v13_0 => [(1, .ptr 0 6 0 0), (2, .ptr 1 6 0 0), (3, .ptr 2 6 0 0), (28, vB v13_0)]) (fun v13_0 => [vE p0.enc, some ⟨6, [[vI (0 : Int), vS (⟨#[]⟩ : ByteArray), vB false, .d (.val (.slice none 0 0)), .d (.val (.slice none 0 0)), .d (.val (.slice none 0 0))]]⟩, vE r9.1.enc]) (fun oJ14 h => ?_) fun v13_0 h => ?_
  ·refine AW.rp ?_
   refine sK h (fun hb15 h => ?_) fun hb15 h => ?_
   ·exact ja [0, 1, 2] h
   refine cm h static_Uses_ok fun r16 hx17 h => ?_
   exact ja [0, 1, 2] h
  refine AW.tk h (fun hb18 h => ?_) fun hb18 h => ?_
  ·refine AW.ro ?_
   refine AW.ret ?_
   have h := up h hJ12
   cases h; refine nz ?_; exact .same _
  exact jo [1, 2] h
 refine AW.ro ?_
 refine AW.ret ?_
 cases h; refine nz ?_; exact .same _
/-! ### isochrone/diff.mapped -/
def diff_mapped_diff_Push_1_body (K : Nat) (self30 : NodeA → Option NodeA) (p0 : NodeA) : Option NodeA := (tree_Copy K (NodeA.mk p0.op p0.name p0.num [])).bind fun r1 =>
 ((iter (S := Int × (List NodeA)) (R := (List NodeA)) K (fun again (i3_0, i3_1) =>
  if (decide (i3_0 < (p0.kids.length : Int))) then
   (idx p0.kids i3_0).bind fun x8 =>
   (self30 (x8)).bind fun r10 =>
   (appO 104 i3_1 [r10]).bind fun l12 =>
   again (IntKind.wrap .i64 (i3_0 + (1 : Int)), l12)
  else
   some i3_1) ((0 : Int), r1.kids)) : Option (List NodeA)).bind (fun e4_0 =>
 (diff_Push_1 K (NodeA.mk r1.op r1.name r1.num e4_0)).bind fun r14 =>
 some r14)
set_option maxHeartbeats 4000000 in
theorem diff_mapped_diff_Push_1_step (K : Nat) (self30 : NodeA → Option NodeA) (hself30 : ∀ (q : NodeA) (r : NodeA), self30 q = some r → Cn Tryz.prog 30 [aggV q.enc, .fn 31 []] (aggV r.enc)) (p0 : NodeA) (r : NodeA) (h : diff_mapped_diff_Push_1_body K self30 p0 = some r) : Cn Tryz.prog 30 [aggV p0.enc, .fn 31 []] (aggV r.enc) := by
 refine Cn.oz Tryz.func30 Tryz.call30 Tryz.ntmps30 Tryz.results30 fun hfit => ?_
 unfold diff_mapped_diff_Push_1_body at h
 refine AW.kr [] [0, 1] ?_
 refine AW.kr [0, 1] [1, 2, 4] ?_
 apply bE h; intro r1 hx2 h
 have hc := nx (tree_Copy_own (h := hx2))
 refine callK_ownC hc ⟨.aggL ⟨.same _, .same _, .same _, .same _, .same _, .nil, trivial⟩, trivial⟩ (by simp only [go_sem, reduceEqDiff, reduceAdd, reduceSub, reduceMul, reduceLeDiff, reduceLT, Nat.reduceBEq, reduceIte]) ?_
 refine ns ?_
 refine AW.ks [0, 1, 10, 9] [1, 2, 4, 5] ?_
 refine AW.one ?_
 refine AW.ro ?_
 refine AW.ks [1, 2, 3] [1, 4, 5, 18, 19, 20] ?_
 refine AW.lm h (fun e4_0 => [(1, .fn 31 []), (4, .ptr 0 6 0 0), (5, .ptr 1 6 0 0)]) (fun e4_0 => [some ⟨6, [[vI (0 : Int), vS (⟨#[]⟩ : ByteArray), vB false, .d (.val (.slice none 0 0)), .d (.val (.slice none 0 0)), .d (.val (.slice none 0 0))]]⟩, some ⟨6, [[vI r1.op, vS r1.name, vB r1.num.neg, vL u32V r1.num.num, vL u32V r1.num.den, accV 2 6 ((e4_0.map NodeA.enc).map (·.map .d))]]⟩, accO 6 ((e4_0.map NodeA.enc).map (·.map .d))]) (fun (i3_0, i3_1) => [(1, .fn 31 []), (4, .ptr 0 6 0 0), (5, .ptr 1 6 0 0), (18, vL NodeA.enc p0.kids), (19, vI (p0.kids.length : Int)), (20, vI i3_0)]) (fun (i3_0, i3_1) => [some ⟨6, [[vI (0 : Int), vS (⟨#[]⟩ : ByteArray), vB false, .d (.val (.slice none 0 0)), .d (.val (.slice none 0 0)), .d (.val (.slice none 0 0))]]⟩, some ⟨6, [[vI r1.op, vS r1.name, vB r1.num.neg, vL u32V r1.num.num, vL u32V r1.num.den, accV 2 6 ((i3_1.map NodeA.enc).map (·.map .d))]]⟩, accO 6 ((i3_1.map NodeA.enc).map (·.map .d))]) [0, 1, 2] (fun oJ6 again ⟨i3_0, i3_1⟩ h => ?_) fun e4_0 h => ?_
 ·try dsimp only at h
  refine AW.ro ?_
  refine AW.ks [0, 1, 2] [1, 4, 5, 18, 19, 20, 21] ?_
  refine AW.one ?_
  refine AW.tt h (fun hb7 h => ?_) fun hb7 h => ?_
  ·refine AW.sk ?_
   refine AW.ks [0, 1, 2] [1, 4, 5, 18, 19, 20] ?_
   refine AW.one ?_
   refine AW.block ?_
   refine AW.ro ?_
   refine bx h fun x8 h0 h1 h => ?_
   refine AW.kr [0, 1, 2, 5] [1, 4, 5, 7, 18, 19, 20] ?_
   refine cm h (hself30 _ _) fun r10 hx11 h => ?_
   refine AW.ks [0, 1, 2, 7] [1, 4, 5, 8, 18, 19, 20] ?_
   refine AW.rp ?_
   refine ag (f := NodeA.enc) h fun l12 hx13 h => ?_
   refine AW.ks [0, 1, 8] [1, 4, 5, 18, 19, 20] ?_
   refine AW.rp ?_
   exact na [0, 1, 2] h
  refine AW.ex ?_
  exact ja [0, 1, 2] h
 refine AW.kr [0, 1, 2] [1, 4, 5] ?_
 apply bE h; intro r14 hx15 h
 have hc := nx (diff_Push_1_ok (h := hx15))
 refine callK_seal [2] hc ⟨.aggL ⟨.same _, .same _, .same _, .same _, .same _, sealAcc (by simp only [go_sem, reduceEqDiff, reduceAdd, reduceSub, reduceMul, reduceLeDiff, reduceLT, Nat.reduceBEq, reduceIte]), trivial⟩, trivial⟩ (by simp only [go_sem, reduceEqDiff, reduceAdd, reduceSub, reduceMul, reduceLeDiff, reduceLT, Nat.reduceBEq, reduceIte]) (by simp only [go_sem, reduceEqDiff, reduceAdd, reduceSub, reduceMul, reduceLeDiff, reduceLT, Nat.reduceBEq, reduceIte]) ?_
 refine ns ?_
 refine AW.ret ?_
 cases h; refine nz ?_; exact .same _
def diff_mapped_diff_Push_1 (K : Nat) (p0 : NodeA) : Option NodeA := iter K (fun self q => diff_mapped_diff_Push_1_body K self q) p0
theorem key_diff_mapped_diff_Push_1 {K : Nat} (k : Nat) : (∀ (q : NodeA) (r : NodeA), iter k (fun self q => diff_mapped_diff_Push_1_body K self q) q = some r → Cn Tryz.prog 30 [aggV q.enc, .fn 31 []] (aggV r.enc)) := by
 induction k with
 | zero => exact fun q r h => by cases h
 | succ k ih => exact fun q r h => diff_mapped_diff_Push_1_step K _ ih q r h
theorem diff_mapped_diff_Push_1_ok {K : Nat} {p0 : NodeA} {r : NodeA} (h : diff_mapped_diff_Push_1 K p0 = some r) : Cn Tryz.prog 30 [aggV p0.enc, .fn 31 []] (aggV r.enc) := (key_diff_mapped_diff_Push_1 K) p0 r h
/-! ### isochrone/diff.Push -/
def diff_Push (K : Nat) (p0 : NodeA) : Option (NodeA × Int) := (diff_root K p0).bind fun r1 =>
 if (r1.2 != (0 : Int)) then
  some ((NodeA.mk (0 : Int) (⟨#[]⟩ : ByteArray) (RatA.mk false [] []) []), r1.2)
 else
  (diff_mapped_diff_Push_1 K p0).bind fun r4 =>
  (tree_Check K r4 r1.1).bind fun r6 =>
  if (r6 != (0 : Int)) then
   some ((NodeA.mk (0 : Int) (⟨#[]⟩ : ByteArray) (RatA.mk false [] []) []), r6)
  else
   some (r4, (0 : Int))
set_option maxHeartbeats 4000000 in
theorem diff_Push_ok {K : Nat} {p0 : NodeA} {r : NodeA × Int} (h : diff_Push K p0 = some r) : Cn Tryz.prog 11 [aggV p0.enc] (.tup [aggV r.1.enc, .d (.val (.int .i64 r.2))]) := by
 refine Cn.oz Tryz.func11 Tryz.call11 Tryz.ntmps11 Tryz.results11 fun hfit => ?_
 unfold diff_Push at h
 refine AW.kr [] [0] ?_
 refine AW.kr [0, 1] [1, 2] ?_
 refine cm h diff_root_ok fun r1 hx2 h => ?_
 refine AW.ks [0, 1] [1, 2, 4, 5] ?_
 refine AW.one ?_
 refine AW.ro ?_
 refine AW.ks [0, 1] [1, 2, 4, 5, 14] ?_
 refine AW.tk h (fun hb3 h => ?_) fun hb3 h => ?_
 ·refine AW.ro ?_
  refine AW.ret ?_
  cases h; refine nz ?_; exact .tupL ⟨.aggL ⟨.same _, .same _, .same _, .nil, .nil, .nil, trivial⟩, .same _, trivial⟩
 refine AW.kr [0, 1] [1, 2, 4] ?_
 refine cm h diff_mapped_diff_Push_1_ok fun r4 hx5 h => ?_
 refine AW.ks [1, 4] [2, 4, 6] ?_
 refine AW.one ?_
 refine AW.ro ?_
 refine cm h tree_Check_ok fun r6 hx7 h => ?_
 refine AW.kr [0, 1] [2, 6, 7] ?_
 refine AW.ks [0, 1] [2, 6, 7, 23] ?_
 refine AW.tk h (fun hb8 h => ?_) fun hb8 h => ?_
 ·refine AW.ro ?_
  refine AW.ret ?_
  cases h; refine nz ?_; exact .tupL ⟨.aggL ⟨.same _, .same _, .same _, .nil, .nil, .nil, trivial⟩, .same _, trivial⟩
 refine AW.kr [0, 1] [2, 6] ?_
 refine AW.ret ?_
 cases h; refine nz ?_; exact .same _
/-! ### isochrone/isochroneref08.Levels -/
def r08_Levels_body (K : Nat) (self19 : NodeA → Option Int) (p0 : NodeA) : Option Int := ((iter (S := Int × Int) (R := Int) K (fun again (i1_0, i1_1) =>
  if (decide (i1_1 < (p0.kids.length : Int))) then
   (idx p0.kids i1_1).bind fun x6 =>
   (self19 (x6)).bind fun r8 =>
   again ((if r8 > i1_0 then r8 else i1_0), IntKind.wrap .i64 (i1_1 + (1 : Int)))
  else
   some i1_0) ((0 : Int), (0 : Int))) : Option Int).bind (fun e2_0 =>
 some (IntKind.wrap .i64 (e2_0 + (1 : Int))))
set_option maxHeartbeats 4000000 in
theorem r08_Levels_step (K : Nat) (self19 : NodeA → Option Int) (hself19 : ∀ (q : NodeA) (r : Int), self19 q = some r → Cn Tryz.prog 19 [aggV q.enc] (.d (.val (.int .i64 r)))) (p0 : NodeA) (r : Int) (h : r08_Levels_body K self19 p0 = some r) : Cn Tryz.prog 19 [aggV p0.enc] (.d (.val (.int .i64 r))) := by
 refine Cn.oz Tryz.func19 Tryz.call19 Tryz.ntmps19 Tryz.results19 fun hfit => ?_
 unfold r08_Levels_body at h
 refine AW.kr [] [0] ?_
 refine AW.kr [0] [1] ?_
 refine AW.ks [0] [1, 3] ?_
 refine AW.one ?_
 refine AW.ro ?_
 refine AW.ks [0] [1, 3, 4] ?_
 refine AW.lm h (fun e2_0 => [(3, vI e2_0)]) (fun e2_0 => []) (fun (i1_0, i1_1) => [(1, .ptr 0 6 0 0), (3, vI i1_0), (4, vI i1_1)]) (fun (i1_0, i1_1) => [vE p0.enc]) [0] (fun oJ4 again ⟨i1_0, i1_1⟩ h => ?_) fun e2_0 h => ?_
 ·try dsimp only at h
  refine AW.one ?_
  refine AW.ro ?_
  refine AW.ks [0] [1, 3, 4, 9] ?_
  refine AW.tt h (fun hb5 h => ?_) fun hb5 h => ?_
  ·refine AW.sk ?_
   refine AW.ks [0] [1, 3, 4] ?_
   refine AW.one ?_
   refine AW.block ?_
   refine AW.rp ?_
   refine bx h fun x6 h0 h1 h => ?_
   refine cm h (hself19 _ _) fun r8 hx9 h => ?_
   refine AW.ks [0] [1, 3, 4] ?_
   refine AW.rp ?_
   exact na [0] h
  refine AW.ex ?_
  exact ja [] h
 refine AW.kr [] [3] ?_
 refine AW.ret ?_
 cases h; refine nz ?_; exact .same _
def r08_Levels (K : Nat) (p0 : NodeA) : Option Int := iter K (fun self q => r08_Levels_body K self q) p0
theorem key_r08_Levels {K : Nat} (k : Nat) : (∀ (q : NodeA) (r : Int), iter k (fun self q => r08_Levels_body K self q) q = some r → Cn Tryz.prog 19 [aggV q.enc] (.d (.val (.int .i64 r)))) := by
 induction k with
 | zero => exact fun q r h => by cases h
 | succ k ih => exact fun q r h => r08_Levels_step K _ ih q r h
theorem r08_Levels_ok {K : Nat} {p0 : NodeA} {r : Int} (h : r08_Levels K p0 = some r) : Cn Tryz.prog 19 [aggV p0.enc] (.d (.val (.int .i64 r))) := (key_r08_Levels K) p0 r h
/-! ### isochrone/isochroneref08.Size -/
def r08_Size_body (K : Nat) (self20 : NodeA → Option Int) (p0 : NodeA) : Option Int := ((iter (S := Int × Int) (R := Int) K (fun again (i1_0, i1_1) =>
  if (decide (i1_1 < (p0.kids.length : Int))) then
   (idx p0.kids i1_1).bind fun x6 =>
   (self20 (x6)).bind fun r8 =>
   again (IntKind.wrap .i64 (i1_0 + r8), IntKind.wrap .i64 (i1_1 + (1 : Int)))
  else
   some i1_0) ((1 : Int), (0 : Int))) : Option Int).bind (fun e2_0 =>
 some e2_0)
set_option maxHeartbeats 4000000 in
theorem r08_Size_step (K : Nat) (self20 : NodeA → Option Int) (hself20 : ∀ (q : NodeA) (r : Int), self20 q = some r → Cn Tryz.prog 20 [aggV q.enc] (.d (.val (.int .i64 r)))) (p0 : NodeA) (r : Int) (h : r08_Size_body K self20 p0 = some r) : Cn Tryz.prog 20 [aggV p0.enc] (.d (.val (.int .i64 r))) := by
 refine Cn.oz Tryz.func20 Tryz.call20 Tryz.ntmps20 Tryz.results20 fun hfit => ?_
 unfold r08_Size_body at h
 refine AW.kr [] [0] ?_
 refine AW.kr [0] [1] ?_
 refine AW.ks [0] [1, 3] ?_
 refine AW.one ?_
 refine AW.ro ?_
 refine AW.ks [0] [1, 3, 4] ?_
 refine AW.lm h (fun e2_0 => [(3, vI e2_0)]) (fun e2_0 => []) (fun (i1_0, i1_1) => [(1, .ptr 0 6 0 0), (3, vI i1_0), (4, vI i1_1)]) (fun (i1_0, i1_1) => [vE p0.enc]) [0] (fun oJ4 again ⟨i1_0, i1_1⟩ h => ?_) fun e2_0 h => ?_
 ·try dsimp only at h
  refine AW.one ?_
  refine AW.ro ?_
  refine AW.ks [0] [1, 3, 4, 9] ?_
  refine AW.tt h (fun hb5 h => ?_) fun hb5 h => ?_
  ·refine AW.sk ?_
   refine AW.ks [0] [1, 3, 4] ?_
   refine AW.one ?_
   refine AW.block ?_
   refine AW.rp ?_
   refine bx h fun x6 h0 h1 h => ?_
   refine cm h (hself20 _ _) fun r8 hx9 h => ?_
   refine AW.ks [0] [1, 3, 4] ?_
   refine AW.rp ?_
   exact na [0] h
  refine AW.ex ?_
  exact ja [] h
 refine AW.kr [] [3] ?_
 refine AW.ret ?_
 cases h; refine nz ?_; exact .same _
def r08_Size (K : Nat) (p0 : NodeA) : Option Int := iter K (fun self q => r08_Size_body K self q) p0
theorem key_r08_Size {K : Nat} (k : Nat) : (∀ (q : NodeA) (r : Int), iter k (fun self q => r08_Size_body K self q) q = some r → Cn Tryz.prog 20 [aggV q.enc] (.d (.val (.int .i64 r)))) := by
 induction k with
 | zero => exact fun q r h => by cases h
 | succ k ih => exact fun q r h => r08_Size_step K _ ih q r h
theorem r08_Size_ok {K : Nat} {p0 : NodeA} {r : Int} (h : r08_Size K p0 = some r) : Cn Tryz.prog 20 [aggV p0.enc] (.d (.val (.int .i64 r))) := (key_r08_Size K) p0 r h
/-! ### isochrone/isochronelaw13.small -/
def law13_small (K : Nat) (p0 : NodeA) (p1 : Int) : Option Bool := (r08_Levels K p0).bind fun r1 =>
 if (decide (r1 ≤ (20 : Int))) then
  (r08_Size K p0).bind fun r4 =>
  some (decide (r4 ≤ p1))
 else
  some false
set_option maxHeartbeats 4000000 in
theorem law13_small_ok {K : Nat} {p0 : NodeA} {p1 : Int} {r : Bool} (h : law13_small K p0 p1 = some r) : Cn Tryz.prog 7 [aggV p0.enc, .d (.val (.int .i64 p1))] (.d (.val (.bool r))) := by
 refine Cn.oz Tryz.func7 Tryz.call7 Tryz.ntmps7 Tryz.results7 fun hfit => ?_
 unfold law13_small at h
 refine AW.kr [] [0, 1] ?_
 refine AW.kr [0] [1, 2] ?_
 refine cm h r08_Levels_ok fun r1 hx2 h => ?_
 refine sK h (fun hb3 h => ?_) fun hb3 h => ?_
 ·refine cm h r08_Size_ok fun r4 hx5 h => ?_
  refine AW.ret ?_
  cases h; refine nz ?_; exact .same _
 refine AW.ret ?_
 cases h; refine nz ?_; exact .same _
/-! ### isochrone/isochroneref08.less -/
def r08_less (K : Nat) (p0 : Int) (p1 : Int) : Option Int := if (decide (p0 < p1)) then
  some (-1 : Int)
 else
  if (decide (p1 < p0)) then
   some (1 : Int)
  else
   some (0 : Int)
set_option maxHeartbeats 4000000 in
theorem r08_less_ok {K : Nat} {p0 : Int} {p1 : Int} {r : Int} (h : r08_less K p0 p1 = some r) : Cn Tryz.prog 57 [.d (.val (.int .i64 p0)), .d (.val (.int .i64 p1))] (.d (.val (.int .i64 r))) := by
 refine Cn.oz Tryz.func57 Tryz.call57 Tryz.ntmps57 Tryz.results57 fun hfit => ?_
 unfold r08_less at h
 refine AW.kr [] [0, 1] ?_
 refine AW.ks [] [0, 1] ?_
 refine AW.one ?_
 refine AW.ro ?_
 refine AW.ks [] [0, 1, 7] ?_
 refine AW.tk h (fun hb1 h => ?_) fun hb1 h => ?_
 ·refine AW.ro ?_
  refine AW.ret ?_
  cases h; refine nz ?_; exact .same _
 refine AW.ks [] [0, 1] ?_
 refine AW.one ?_
 refine AW.ro ?_
 refine AW.ks [] [10] ?_
 refine AW.tk h (fun hb2 h => ?_) fun hb2 h => ?_
 ·refine AW.ro ?_
  refine AW.ret ?_
  cases h; refine nz ?_; exact .same _
 refine AW.kr [] [] ?_
 refine AW.ret ?_
 cases h; refine nz ?_; exact .same _
/-! ### isochrone/isochroneref08.words -/
def r08_words (K : Nat) (p0 : List Int) (p1 : List Int) : Option Int := if ((p0.length : Int) != (p1.length : Int)) then
  if (decide ((p0.length : Int) < (p1.length : Int))) then
   some (-1 : Int)
  else
   some (1 : Int)
 else
  ((iter (S := Int) (R := Out Unit _) K (fun again i3_0 =>
   if (decide ((0 : Int) ≤ i3_0)) then
    (idx p0 i3_0).bind fun x8 =>
    (idx p1 i3_0).bind fun x10 =>
    if (x8 != x10) then
     if (decide (x8 < x10)) then
      outM (
       some (-1 : Int))
     else
      outM (
       some (1 : Int))
    else
     again (IntKind.wrap .i64 (i3_0 - (1 : Int)))
   else
    some (.go ())) (IntKind.wrap .i64 ((p0.length : Int) - (1 : Int)))) : Option (Out Unit _)).bind (Out.fin fun _ =>
  some (0 : Int))
set_option maxHeartbeats 4000000 in
theorem r08_words_ok {K : Nat} {p0 : List Int} {p1 : List Int} {r : Int} (h : r08_words K p0 p1 = some r) : Cn Tryz.prog 58 [.d (slD u32V p0), .d (slD u32V p1)] (.d (.val (.int .i64 r))) := by
 refine Cn.oz Tryz.func58 Tryz.call58 Tryz.ntmps58 Tryz.results58 fun hfit => ?_
 unfold r08_words at h
 refine AW.kr [] [0, 1] ?_
 refine AW.ks [] [0, 1] ?_
 refine AW.one ?_
 refine AW.ro ?_
 refine AW.ks [] [0, 1, 10] ?_
 refine AW.tk h (fun hb1 h => ?_) fun hb1 h => ?_
 ·refine AW.one ?_
  refine AW.ro ?_
  refine AW.ks [] [15] ?_
  refine AW.tk h (fun hb2 h => ?_) fun hb2 h => ?_
  ·refine AW.ro ?_
   refine AW.ret ?_
   cases h; refine nz ?_; exact .same _
  refine AW.kr [] [] ?_
  refine AW.ret ?_
  cases h; refine nz ?_; exact .same _
 refine AW.ks [] [0, 1] ?_
 refine AW.one ?_
 refine AW.ro ?_
 refine AW.ks [] [0, 1, 5] ?_
 refine AW.lp h (fun _ => []) (fun _ => []) (fun i3_0 => [(0, vL u32V p0), (1, vL u32V p1), (5, vI i3_0)]) (fun i3_0 => []) [] (fun oJ6 hJ6 again i3_0 h => ?_) fun ⟨⟩ h => ?_
 ·refine AW.one ?_
  refine AW.ro ?_
  refine AW.ks [] [0, 1, 5, 20] ?_
  refine AW.tt h (fun hb7 h => ?_) fun hb7 h => ?_
  ·refine AW.sk ?_
   refine AW.ks [] [0, 1, 5] ?_
   refine AW.one ?_
   refine AW.block ?_
   refine AW.ro ?_
   refine bx h fun x8 h0 h1 h => ?_
   refine bx h fun x10 h0 h1 h => ?_
   refine AW.ks [] [0, 1, 5, 31] ?_
   refine AW.tk h (fun hb12 h => ?_) fun hb12 h => ?_
   ·refine AW.one ?_
    refine AW.ro ?_
    refine AW.ks [] [40] ?_
    refine AW.tk h (fun hb13 h => ?_) fun hb13 h => ?_
    ·refine AW.ro ?_
     refine AW.ret ?_
     have h := up h hJ6
     cases h; refine nz ?_; exact .same _
    refine AW.kr [] [] ?_
    refine AW.ret ?_
    have h := up h hJ6
    cases h; refine nz ?_; exact .same _
   refine AW.ks [] [0, 1, 5] ?_
   refine AW.rp ?_
   exact na [] h
  refine AW.ex ?_
  exact jo [] h
 refine AW.kr [] [] ?_
 refine AW.ret ?_
 cases h; refine nz ?_; exact .same _
/-! ### isochrone/isochroneref08.Compare -/
def r08_Compare_body (K : Nat) (self29 : (NodeA × NodeA) → Option Int) (p0 : NodeA) (p1 : NodeA) : Option Int := (r08_less K p0.op p1.op).bind fun r1 =>
 if (r1 != (0 : Int)) then
  some r1
 else
  if (!(p0.name.toList == p1.name.toList)) then
   if (Op.bytesLess p0.name.toList p1.name.toList) then
    some (-1 : Int)
   else
    some (1 : Int)
  else
   if (!(p0.num.neg == p1.num.neg)) then
    if p1.num.neg then
     some (-1 : Int)
    else
     some (1 : Int)
   else
    (r08_words K p0.num.num p1.num.num).bind fun r8 =>
    if (r8 != (0 : Int)) then
     some r8
    else
     (r08_words K p0.num.den p1.num.den).bind fun r11 =>
     if (r11 != (0 : Int)) then
      some r11
     else
      (r08_less K (p0.kids.length : Int) (p1.kids.length : Int)).bind fun r14 =>
      if (r14 != (0 : Int)) then
       some r14
      else
       ((iter (S := Int) (R := Out Unit _) K (fun again i17_0 =>
        if (decide (i17_0 < (p0.kids.length : Int))) then
         (idx p0.kids i17_0).bind fun x22 =>
         (idx p1.kids i17_0).bind fun x24 =>
         (self29 (x22, x24)).bind fun r26 =>
         if (r26 != (0 : Int)) then
          outM (
           some r26)
         else
          again (IntKind.wrap .i64 (i17_0 + (1 : Int)))
        else
         some (.go ())) (0 : Int)) : Option (Out Unit _)).bind (Out.fin fun _ =>
       some (0 : Int))
set_option maxHeartbeats 4000000 in
theorem r08_Compare_step (K : Nat) (self29 : (NodeA × NodeA) → Option Int) (hself29 : ∀ (q : NodeA × NodeA) (r : Int), self29 q = some r → Cn Tryz.prog 29 [aggV q.1.enc, aggV q.2.enc] (.d (.val (.int .i64 r)))) (p0 : NodeA) (p1 : NodeA) (r : Int) (h : r08_Compare_body K self29 p0 p1 = some r) : Cn Tryz.prog 29 [aggV p0.enc, aggV p1.enc] (.d (.val (.int .i64 r))) := by
 refine Cn.oz Tryz.func29 Tryz.call29 Tryz.ntmps29 Tryz.results29 fun hfit => ?_
 unfold r08_Compare_body at h
 refine AW.kr [] [0, 1] ?_
 refine AW.ks [0, 1] [2, 3] ?_
 refine AW.one ?_
 refine AW.ro ?_
 refine cm h r08_less_ok fun r1 hx2 h => ?_
 refine AW.kr [0, 1] [2, 3, 5] ?_
 refine AW.ks [0, 1] [2, 3, 5, 17] ?_
 refine AW.tk h (fun hb3 h => ?_) fun hb3 h => ?_
 ·refine AW.ro ?_
  refine AW.ret ?_
  cases h; refine nz ?_; exact .same _
 refine AW.ks [0, 1] [2, 3] ?_
 refine AW.one ?_
 refine AW.ro ?_
 refine AW.ks [0, 1] [2, 3, 23] ?_
 refine AW.tk h (fun hb4 h => ?_) fun hb4 h => ?_
 ·refine AW.one ?_
  refine AW.ro ?_
  refine AW.ks [] [28] ?_
  refine AW.tk h (fun hb5 h => ?_) fun hb5 h => ?_
  ·refine AW.ro ?_
   refine AW.ret ?_
   cases h; refine nz ?_; exact .same _
  refine AW.kr [] [] ?_
  refine AW.ret ?_
  cases h; refine nz ?_; exact .same _
 refine AW.ks [0, 1] [2, 3] ?_
 refine AW.one ?_
 refine AW.ro ?_
 refine AW.ks [0, 1] [2, 3, 35] ?_
 refine AW.tk h (fun hb6 h => ?_) fun hb6 h => ?_
 ·refine AW.one ?_
  refine AW.ro ?_
  refine AW.ks [] [38] ?_
  refine AW.tk h (fun hb7 h => ?_) fun hb7 h => ?_
  ·refine AW.ro ?_
   refine AW.ret ?_
   cases h; refine nz ?_; exact .same _
  refine AW.kr [] [] ?_
  refine AW.ret ?_
  cases h; refine nz ?_; exact .same _
 refine AW.ks [0, 1] [2, 3] ?_
 refine AW.one ?_
 refine AW.ro ?_
 refine cm h r08_words_ok fun r8 hx9 h => ?_
 refine AW.kr [0, 1] [2, 3, 6] ?_
 refine AW.ks [0, 1] [2, 3, 6, 47] ?_
 refine AW.tk h (fun hb10 h => ?_) fun hb10 h => ?_
 ·refine AW.ro ?_
  refine AW.ret ?_
  cases h; refine nz ?_; exact .same _
 refine AW.ks [0, 1] [2, 3] ?_
 refine AW.one ?_
 refine AW.ro ?_
 refine cm h r08_words_ok fun r11 hx12 h => ?_
 refine AW.kr [0, 1] [2, 3, 7] ?_
 refine AW.ks [0, 1] [2, 3, 7, 57] ?_
 refine AW.tk h (fun hb13 h => ?_) fun hb13 h => ?_
 ·refine AW.ro ?_
  refine AW.ret ?_
  cases h; refine nz ?_; exact .same _
 refine AW.ks [0, 1] [2, 3] ?_
 refine AW.one ?_
 refine AW.ro ?_
 refine cm h r08_less_ok fun r14 hx15 h => ?_
 refine AW.kr [0, 1] [2, 3, 8] ?_
 refine AW.ks [0, 1] [2, 3, 8, 67] ?_
 refine AW.tk h (fun hb16 h => ?_) fun hb16 h => ?_
 ·refine AW.ro ?_
  refine AW.ret ?_
  cases h; refine nz ?_; exact .same _
 refine AW.ks [0, 1] [2, 3] ?_
 refine AW.one ?_
 refine AW.ro ?_
 refine AW.ks [0, 1] [2, 3, 9] ?_
 refine AW.lp h (fun _ => []) (fun _ => []) (fun i17_0 => [(2, .ptr 0 6 0 0), (3, .ptr 1 6 0 0), (9, vI i17_0)]) (fun i17_0 => [vE p0.enc, vE p1.enc]) [0, 1] (fun oJ20 hJ20 again i17_0 h => ?_) fun ⟨⟩ h => ?_
 ·refine AW.one ?_
  refine AW.ro ?_
  refine AW.ks [0, 1] [2, 3, 9, 73] ?_
  refine AW.tt h (fun hb21 h => ?_) fun hb21 h => ?_
  ·refine AW.sk ?_
   refine AW.ks [0, 1] [2, 3, 9] ?_
   refine AW.one ?_
   refine AW.block ?_
   refine AW.ro ?_
   refine bx h fun x22 h0 h1 h => ?_
   refine bx h fun x24 h0 h1 h => ?_
   refine pm h (hself29 _ _) fun r26 hx27 h => ?_
   refine AW.kr [0, 1] [2, 3, 9, 10] ?_
   refine AW.ks [0, 1] [2, 3, 9, 10, 88] ?_
   refine AW.tk h (fun hb28 h => ?_) fun hb28 h => ?_
   ·refine AW.ro ?_
    refine AW.ret ?_
    have h := up h hJ20
    cases h; refine nz ?_; exact .same _
   refine AW.ks [0, 1] [2, 3, 9] ?_
   refine AW.rp ?_
   exact na [0, 1] h
  refine AW.ex ?_
  exact jo [] h
 refine AW.kr [] [] ?_
 refine AW.ret ?_
 cases h; refine nz ?_; exact .same _
def r08_Compare (K : Nat) (p0 : NodeA) (p1 : NodeA) : Option Int := iter K (fun self q => r08_Compare_body K self q.1 q.2) (p0, p1)
theorem key_r08_Compare {K : Nat} (k : Nat) : (∀ (q : NodeA × NodeA) (r : Int), iter k (fun self q => r08_Compare_body K self q.1 q.2) q = some r → Cn Tryz.prog 29 [aggV q.1.enc, aggV q.2.enc] (.d (.val (.int .i64 r)))) := by
 induction k with
 | zero => exact fun q r h => by cases h
 | succ k ih => exact fun q r h => r08_Compare_step K _ ih q.1 q.2 r h
theorem r08_Compare_ok {K : Nat} {p0 : NodeA} {p1 : NodeA} {r : Int} (h : r08_Compare K p0 p1 = some r) : Cn Tryz.prog 29 [aggV p0.enc, aggV p1.enc] (.d (.val (.int .i64 r))) := (key_r08_Compare K) (p0, p1) r h
/-! ### isochrone/isochroneref08.Equal -/
def r08_Equal (K : Nat) (p0 : NodeA) (p1 : NodeA) : Option Bool := (r08_Compare K p0 p1).bind fun r1 =>
 some (r1 == (0 : Int))
set_option maxHeartbeats 4000000 in
theorem r08_Equal_ok {K : Nat} {p0 : NodeA} {p1 : NodeA} {r : Bool} (h : r08_Equal K p0 p1 = some r) : Cn Tryz.prog 10 [aggV p0.enc, aggV p1.enc] (.d (.val (.bool r))) := by
 refine Cn.oz Tryz.func10 Tryz.call10 Tryz.ntmps10 Tryz.results10 fun hfit => ?_
 unfold r08_Equal at h
 refine AW.kr [] [0, 1] ?_
 refine AW.kr [0, 1] [2, 3] ?_
 refine cm h r08_Compare_ok fun r1 hx2 h => ?_
 refine AW.ret ?_
 cases h; refine nz ?_; exact .same _
/-! ### isochrone/isochroneref08.Sort -/
def r08_Sort (K : Nat) (p0 : Int) : Option Int := ((
  if (decide ((1 : Int) ≤ p0)) then
   some (decide (p0 ≤ (13 : Int)))
  else
   some false) : Option Bool).bind (fun v1_0 =>
 if v1_0 then
  some (1 : Int)
 else
  ((
   if (decide ((20 : Int) ≤ p0)) then
    some (decide (p0 ≤ (39 : Int)))
   else
    some false) : Option Bool).bind (fun v5_0 =>
  if v5_0 then
   some (2 : Int)
  else
   ((
    if (p0 == (55 : Int)) then
     some true
    else
     some (p0 == (56 : Int))) : Option Bool).bind (fun v9_0 =>
   if v9_0 then
    some (4 : Int)
   else
    ((
     if (decide ((50 : Int) ≤ p0)) then
      some (decide (p0 ≤ (62 : Int)))
     else
      some false) : Option Bool).bind (fun v13_0 =>
    if v13_0 then
     some (3 : Int)
    else
     some (0 : Int)))))
set_option maxHeartbeats 4000000 in
theorem r08_Sort_ok {K : Nat} {p0 : Int} {r : Int} (h : r08_Sort K p0 = some r) : Cn Tryz.prog 25 [.d (.val (.int .i64 p0))] (.d (.val (.int .i64 r))) := by
 refine Cn.oz Tryz.func25 Tryz.call25 Tryz.ntmps25 Tryz.results25 fun hfit => ?_
 unfold r08_Sort at h
 refine AW.kr [] [0] ?_
 refine AW.ks [] [0] ?_
 refine AW.one ?_
 refine AW.block ?_
 refine AW.jn h (fun v1_0 => [(0, vI p0), (3, vB v1_0)]) (fun v1_0 => []) (fun oJ2 h => ?_) fun v1_0 h => ?_
 ·refine AW.rp ?_
  refine sK h (fun hb3 h => ?_) fun hb3 h => ?_
  ·exact ja [] h
  exact ja [] h
 refine AW.tt h (fun hb4 h => ?_) fun hb4 h => ?_
 ·refine AW.ro ?_
  refine AW.ret ?_
  cases h; refine nz ?_; exact .same _
 refine AW.jn h (fun v5_0 => [(0, vI p0), (10, vB v5_0)]) (fun v5_0 => []) (fun oJ6 h => ?_) fun v5_0 h => ?_
 ·refine AW.rp ?_
  refine sK h (fun hb7 h => ?_) fun hb7 h => ?_
  ·exact ja [] h
  exact ja [] h
 refine AW.tt h (fun hb8 h => ?_) fun hb8 h => ?_
 ·refine AW.ro ?_
  refine AW.ret ?_
  cases h; refine nz ?_; exact .same _
 refine AW.jn h (fun v9_0 => [(0, vI p0), (17, vB v9_0)]) (fun v9_0 => []) (fun oJ10 h => ?_) fun v9_0 h => ?_
 ·refine AW.rp ?_
  refine sK h (fun hb11 h => ?_) fun hb11 h => ?_
  ·exact ja [] h
  exact ja [] h
 refine AW.tt h (fun hb12 h => ?_) fun hb12 h => ?_
 ·refine AW.ro ?_
  refine AW.ret ?_
  cases h; refine nz ?_; exact .same _
 refine AW.jn h (fun v13_0 => [(24, vB v13_0)]) (fun v13_0 => []) (fun oJ14 h => ?_) fun v13_0 h => ?_
 ·refine AW.rp ?_
  refine sK h (fun hb15 h => ?_) fun hb15 h => ?_
  ·exact ja [] h
  exact ja [] h
 refine AW.tk h (fun hb16 h => ?_) fun hb16 h => ?_
 ·refine AW.ro ?_
  refine AW.ret ?_
  cases h; refine nz ?_; exact .same _
 refine AW.kr [] [] ?_
 refine AW.ret ?_
 cases h; refine nz ?_; exact .same _
/-! ### isochrone/isochroneref08.letter -/
def r08_letter (K : Nat) (p0 : Int) : Option Bool := if (decide ((97 : Int) ≤ p0)) then
  if (decide (p0 ≤ (122 : Int))) then
   some true
  else
   if (decide ((65 : Int) ≤ p0)) then
    some (decide (p0 ≤ (90 : Int)))
   else
    some false
 else
  if (decide ((65 : Int) ≤ p0)) then
   some (decide (p0 ≤ (90 : Int)))
  else
   some false
set_option maxHeartbeats 4000000 in
theorem r08_letter_ok {K : Nat} {p0 : Int} {r : Bool} (h : r08_letter K p0 = some r) : Cn Tryz.prog 124 [.d (.val (.int .u8 p0))] (.d (.val (.bool r))) := by
 refine Cn.oz Tryz.func124 Tryz.call124 Tryz.ntmps124 Tryz.results124 fun hfit => ?_
 unfold r08_letter at h
 refine AW.kr [] [0] ?_
 refine AW.kr [] [0] ?_
 refine sK h (fun hb1 h => ?_) fun hb1 h => ?_
 ·refine sK h (fun hb2 h => ?_) fun hb2 h => ?_
  ·refine AW.ret ?_
   cases h; refine nz ?_; exact .same _
  refine sK h (fun hb3 h => ?_) fun hb3 h => ?_
  ·refine AW.ret ?_
   cases h; refine nz ?_; exact .same _
  refine AW.ret ?_
  cases h; refine nz ?_; exact .same _
 refine sK h (fun hb4 h => ?_) fun hb4 h => ?_
 ·refine AW.ret ?_
  cases h; refine nz ?_; exact .same _
 refine AW.ret ?_
 cases h; refine nz ?_; exact .same _
/-! ### isochrone/isochroneref08.Name -/
def r08_Name (K : Nat) (p0 : ByteArray) : Option Bool := ((
  ((
   if ((p0.size : Int) == (0 : Int)) then
    some true
   else
    if (decide ((12 : Int) < (p0.size : Int))) then
     some true
    else
     if (p0.toList == (⟨#[116, 114, 117, 101]⟩ : ByteArray).toList) then
      some true
     else
      if (p0.toList == (⟨#[102, 97, 108, 115, 101]⟩ : ByteArray).toList) then
       some true
      else
       if (p0.toList == (⟨#[102, 111, 114, 97, 108, 108]⟩ : ByteArray).toList) then
        some true
       else
        some (p0.toList == (⟨#[101, 120, 105, 115, 116, 115]⟩ : ByteArray).toList)) : Option Bool).bind (fun v3_0 =>
  if v3_0 then
   outM (
    some false)
  else
   some (.go ()))) : Option (Out Unit _)).bind (Out.fin fun _ =>
 ((iter (S := Int) (R := Out Unit _) K (fun again i11_0 =>
  if (decide (i11_0 < (p0.size : Int))) then
   ((
    ((
     (strAt p0 i11_0).bind fun c20 =>
     (r08_letter K (c20.toNat : Int)).bind fun r22 =>
     if (!r22) then
      if (i11_0 == (0 : Int)) then
       some true
      else
       if (decide ((c20.toNat : Int) < (48 : Int))) then
        some true
       else
        some (decide ((57 : Int) < (c20.toNat : Int)))
     else
      some false) : Option Bool).bind (fun v18_0 =>
    if v18_0 then
     outM (
      outM (
       some false))
    else
     some (.go ()))) : Option (Out Unit _)).bind (Out.fin fun _ =>
   again (IntKind.wrap .i64 (i11_0 + (1 : Int))))
  else
   some (.go ())) (0 : Int)) : Option (Out Unit _)).bind (Out.fin fun _ =>
 some true))
set_option maxHeartbeats 4000000 in
theorem r08_Name_ok {K : Nat} {p0 : ByteArray} {r : Bool} (h : r08_Name K p0 = some r) : Cn Tryz.prog 90 [.d (.val (.string p0))] (.d (.val (.bool r))) := by
 refine Cn.oz Tryz.func90 Tryz.call90 Tryz.ntmps90 Tryz.results90 fun hfit => ?_
 unfold r08_Name at h
 refine AW.kr [] [0] ?_
 refine AW.ks [] [0] ?_
 refine AW.jo h (fun _ => [(0, vS p0)]) (fun _ => []) (fun oJ2 h hJ2 => ?_) fun ⟨⟩ h => ?_
 ·refine AW.jn h (fun v3_0 => [(0, vS p0), (27, vB v3_0)]) (fun v3_0 => []) (fun oJ4 h => ?_) fun v3_0 h => ?_
  ·refine AW.rp ?_
   refine sK h (fun hb5 h => ?_) fun hb5 h => ?_
   ·exact ja [] h
   refine sK h (fun hb6 h => ?_) fun hb6 h => ?_
   ·exact ja [] h
   refine sK h (fun hb7 h => ?_) fun hb7 h => ?_
   ·exact ja [] h
   refine sK h (fun hb8 h => ?_) fun hb8 h => ?_
   ·exact ja [] h
   refine sK h (fun hb9 h => ?_) fun hb9 h => ?_
   ·exact ja [] h
   exact ja [] h
  refine AW.tk h (fun hb10 h => ?_) fun hb10 h => ?_
  ·refine AW.ro ?_
   refine AW.ret ?_
   have h := up h hJ2
   cases h; refine nz ?_; exact .same _
  exact jo [] h
 refine AW.one ?_
 refine AW.ro ?_
 refine AW.ks [] [0, 3] ?_
 refine AW.lp h (fun _ => []) (fun _ => []) (fun i11_0 => [(0, vS p0), (3, vI i11_0)]) (fun i11_0 => []) [] (fun oJ14 hJ14 again i11_0 h => ?_) fun ⟨⟩ h => ?_
 ·refine AW.one ?_
  refine AW.ro ?_
  refine AW.ks [] [0, 3, 31] ?_
  refine AW.tt h (fun hb15 h => ?_) fun hb15 h => ?_
  ·refine AW.sk ?_
   refine AW.ks [] [0, 3] ?_
   refine AW.jo h (fun _ => [(0, vS p0), (3, vI i11_0)]) (fun _ => []) (fun oJ17 h hJ17 => ?_) fun ⟨⟩ h => ?_
   ·refine AW.block ?_
    refine AW.jn h (fun v18_0 => [(0, vS p0), (3, vI i11_0), (54, vB v18_0)]) (fun v18_0 => []) (fun oJ19 h => ?_) fun v18_0 h => ?_
    ·refine AW.rp ?_
     refine bb h fun c20 hx21 h => ?_
     refine cm h r08_letter_ok fun r22 hx23 h => ?_
     refine sK h (fun hb24 h => ?_) fun hb24 h => ?_
     ·refine sK h (fun hb25 h => ?_) fun hb25 h => ?_
      ·exact ja [] h
      refine sK h (fun hb26 h => ?_) fun hb26 h => ?_
      ·exact ja [] h
      exact ja [] h
     exact ja [] h
    refine AW.tk h (fun hb27 h => ?_) fun hb27 h => ?_
    ·refine AW.ro ?_
     refine AW.ret ?_
     have h := up h hJ17
     have h := up h hJ14
     cases h; refine nz ?_; exact .same _
    exact jo [] h
   refine AW.rp ?_
   exact na [] h
  refine AW.ex ?_
  exact jo [] h
 refine AW.kr [] [] ?_
 refine AW.ret ?_
 cases h; refine nz ?_; exact .same _
/-! ### isochrone/isochroneref08.Natural -/
def r08_Natural (K : Nat) (p0 : RatA) (p1 : Int) : Option Int := if ((p0.num.length : Int) == (0 : Int)) then
  some (0 : Int)
 else
  ((
   ((
    if (decide ((1 : Int) < (p0.num.length : Int))) then
     some true
    else
     (idx p0.num (0 : Int)).bind fun x7 =>
     some (decide (p1 < (IntKind.wrap .i64 x7)))) : Option Bool).bind (fun v4_0 =>
   if v4_0 then
    outM (
     some (-1 : Int))
   else
    some (.go ()))) : Option (Out Unit _)).bind (Out.fin fun _ =>
  (idx p0.num (0 : Int)).bind fun x10 =>
  some (IntKind.wrap .i64 x10))
set_option maxHeartbeats 4000000 in
theorem r08_Natural_ok {K : Nat} {p0 : RatA} {p1 : Int} {r : Int} (h : r08_Natural K p0 p1 = some r) : Cn Tryz.prog 94 [aggV p0.enc, .d (.val (.int .i64 p1))] (.d (.val (.int .i64 r))) := by
 have q0 := fun k z => cv_int (k' := k) (z := z) Tryz.underlying64 Tryz.underlying2
 have q1 := fun k z => cv_int (k' := k) (z := z) Tryz.underlying64 Tryz.underlying3
 refine Cn.oz Tryz.func94 Tryz.call94 Tryz.ntmps94 Tryz.results94 fun hfit => ?_
 unfold r08_Natural at h
 refine AW.kr [] [0, 1] ?_
 refine AW.ks [0] [1, 2] ?_
 refine AW.one ?_
 refine AW.ro ?_
 refine AW.ks [0] [1, 2, 8] ?_
 refine AW.tk h (fun hb1 h => ?_) fun hb1 h => ?_
 ·refine AW.ro ?_
  refine AW.ret ?_
  cases h; refine nz ?_; exact .same _
 refine AW.ks [0] [1, 2] ?_
 refine AW.jo h (fun _ => [(2, .ptr 0 3 0 0)]) (fun _ => [vE p0.enc]) (fun oJ3 h hJ3 => ?_) fun ⟨⟩ h => ?_
 ·refine AW.jn h (fun v4_0 => [(2, .ptr 0 3 0 0), (21, vB v4_0)]) (fun v4_0 => [vE p0.enc]) (fun oJ5 h => ?_) fun v4_0 h => ?_
  ·refine AW.rp ?_
   refine sK h (fun hb6 h => ?_) fun hb6 h => ?_
   ·exact ja [0] h
   refine bx h fun x7 h0 h1 h => ?_
   exact ja [0] h
  refine AW.tk h (fun hb9 h => ?_) fun hb9 h => ?_
  ·refine AW.ro ?_
   refine AW.ret ?_
   have h := up h hJ3
   cases h; refine nz ?_; exact .same _
  exact jo [0] h
 refine AW.ro ?_
 refine bx h fun x10 h0 h1 h => ?_
 refine AW.ret ?_
 cases h; refine nz ?_; exact .same _
/-! ### isochrone/isochroneref08.differential -/
def r08_differential_body (K : Nat) (self95 : NodeA → Option Bool) (p0 : NodeA) : Option Bool := ((
  if (p0.op == (20 : Int)) then
   some true
  else
   if (p0.op == (21 : Int)) then
    some true
   else
    if (decide ((22 : Int) ≤ p0.op)) then
     if (decide (p0.op ≤ (27 : Int))) then
      some true
     else
      if (p0.op == (37 : Int)) then
       some true
      else
       some (p0.op == (38 : Int))
    else
     if (p0.op == (37 : Int)) then
      some true
     else
      some (p0.op == (38 : Int))) : Option Bool).bind (fun v1_0 =>
 if v1_0 then
  some true
 else
  ((
   if (p0.op == (29 : Int)) then
    some true
   else
    some (p0.op == (30 : Int))) : Option Bool).bind (fun v10_0 =>
  if v10_0 then
   ((iter (S := Int) (R := Out Unit _) K (fun again i14_0 =>
    if (decide (i14_0 < (p0.kids.length : Int))) then
     (idx p0.kids i14_0).bind fun x19 =>
     (self95 (x19)).bind fun r21 =>
     if (!r21) then
      outM (
       some false)
     else
      again (IntKind.wrap .i64 (i14_0 + (1 : Int)))
    else
     some (.go ())) (0 : Int)) : Option (Out Unit _)).bind (Out.fin fun _ =>
   some true)
  else
   some false))
set_option maxHeartbeats 4000000 in
theorem r08_differential_step (K : Nat) (self95 : NodeA → Option Bool) (hself95 : ∀ (q : NodeA) (r : Bool), self95 q = some r → Cn Tryz.prog 95 [aggV q.enc] (.d (.val (.bool r)))) (p0 : NodeA) (r : Bool) (h : r08_differential_body K self95 p0 = some r) : Cn Tryz.prog 95 [aggV p0.enc] (.d (.val (.bool r))) := by
 refine Cn.oz Tryz.func95 Tryz.call95 Tryz.ntmps95 Tryz.results95 fun hfit => ?_
 unfold r08_differential_body at h
 refine AW.kr [] [0] ?_
 refine AW.ks [0] [1] ?_
 refine AW.one ?_
 refine AW.block ?_
 refine AW.jn h (fun v1_0 => [(1, .ptr 0 6 0 0), (4, vB v1_0)]) (fun v1_0 => [vE p0.enc]) (fun oJ2 h => ?_) fun v1_0 h => ?_
 ·refine AW.rp ?_
  refine sK h (fun hb3 h => ?_) fun hb3 h => ?_
  ·exact ja [0] h
  refine sK h (fun hb4 h => ?_) fun hb4 h => ?_
  ·exact ja [0] h
  refine sK h (fun hb5 h => ?_) fun hb5 h => ?_
  ·refine sK h (fun hb6 h => ?_) fun hb6 h => ?_
   ·exact ja [0] h
   refine sK h (fun hb7 h => ?_) fun hb7 h => ?_
   ·exact ja [0] h
   exact ja [0] h
  refine sK h (fun hb8 h => ?_) fun hb8 h => ?_
  ·exact ja [0] h
  exact ja [0] h
 refine AW.tt h (fun hb9 h => ?_) fun hb9 h => ?_
 ·refine AW.ro ?_
  refine AW.ret ?_
  cases h; refine nz ?_; exact .same _
 refine AW.jn h (fun v10_0 => [(1, .ptr 0 6 0 0), (33, vB v10_0)]) (fun v10_0 => [vE p0.enc]) (fun oJ11 h => ?_) fun v10_0 h => ?_
 ·refine AW.rp ?_
  refine sK h (fun hb12 h => ?_) fun hb12 h => ?_
  ·exact ja [0] h
  exact ja [0] h
 refine AW.tk h (fun hb13 h => ?_) fun hb13 h => ?_
 ·refine AW.one ?_
  refine AW.ro ?_
  refine AW.ks [0] [1, 3] ?_
  refine AW.lp h (fun _ => []) (fun _ => []) (fun i14_0 => [(1, .ptr 0 6 0 0), (3, vI i14_0)]) (fun i14_0 => [vE p0.enc]) [0] (fun oJ17 hJ17 again i14_0 h => ?_) fun ⟨⟩ h => ?_
  ·refine AW.one ?_
   refine AW.ro ?_
   refine AW.ks [0] [1, 3, 46] ?_
   refine AW.tt h (fun hb18 h => ?_) fun hb18 h => ?_
   ·refine AW.sk ?_
    refine AW.ks [0] [1, 3] ?_
    refine AW.one ?_
    refine AW.block ?_
    refine AW.ro ?_
    refine bx h fun x19 h0 h1 h => ?_
    refine cm h (hself95 _ _) fun r21 hx22 h => ?_
    refine AW.ks [0] [1, 3, 55] ?_
    refine AW.tk h (fun hb23 h => ?_) fun hb23 h => ?_
    ·refine AW.ro ?_
     refine AW.ret ?_
     have h := up h hJ17
     cases h; refine nz ?_; exact .same _
    refine AW.ks [0] [1, 3] ?_
    refine AW.rp ?_
    exact na [0] h
   refine AW.ex ?_
   exact jo [] h
  refine AW.kr [] [] ?_
  refine AW.ret ?_
  cases h; refine nz ?_; exact .same _
 refine AW.kr [] [] ?_
 refine AW.ret ?_
 cases h; refine nz ?_; exact .same _
def r08_differential (K : Nat) (p0 : NodeA) : Option Bool := iter K (fun self q => r08_differential_body K self q) p0
theorem key_r08_differential {K : Nat} (k : Nat) : (∀ (q : NodeA) (r : Bool), iter k (fun self q => r08_differential_body K self q) q = some r → Cn Tryz.prog 95 [aggV q.enc] (.d (.val (.bool r)))) := by
 induction k with
 | zero => exact fun q r h => by cases h
 | succ k ih => exact fun q r h => r08_differential_step K _ ih q r h
theorem r08_differential_ok {K : Nat} {p0 : NodeA} {r : Bool} (h : r08_differential K p0 = some r) : Cn Tryz.prog 95 [aggV p0.enc] (.d (.val (.bool r))) := (key_r08_differential K) p0 r h
/-! ### isochrone/isochroneref08.kids -/
def r08_kids (K : Nat) (p0 : Int) : Option ByteArray := ((
  if (p0 == (4 : Int)) then
   some (p0 == (4 : Int))
  else
   if (p0 == (12 : Int)) then
    some (p0 == (12 : Int))
   else
    if (p0 == (50 : Int)) then
     some (p0 == (50 : Int))
    else
     if (p0 == (51 : Int)) then
      some (p0 == (51 : Int))
     else
      some (p0 == (55 : Int))) : Option Bool).bind (fun v1_0 =>
 if v1_0 then
  some (⟨#[49]⟩ : ByteArray)
 else
  ((
   if (p0 == (5 : Int)) then
    some (p0 == (5 : Int))
   else
    if (p0 == (6 : Int)) then
     some (p0 == (6 : Int))
    else
     if (p0 == (7 : Int)) then
      some (p0 == (7 : Int))
     else
      if (p0 == (8 : Int)) then
       some (p0 == (8 : Int))
      else
       if (p0 == (9 : Int)) then
        some (p0 == (9 : Int))
       else
        if (p0 == (22 : Int)) then
         some (p0 == (22 : Int))
        else
         if (p0 == (23 : Int)) then
          some (p0 == (23 : Int))
         else
          if (p0 == (24 : Int)) then
           some (p0 == (24 : Int))
          else
           if (p0 == (25 : Int)) then
            some (p0 == (25 : Int))
           else
            if (p0 == (26 : Int)) then
             some (p0 == (26 : Int))
            else
             some (p0 == (27 : Int))) : Option Bool).bind (fun v8_0 =>
  if v8_0 then
   some (⟨#[49, 49]⟩ : ByteArray)
  else
   ((
    if (p0 == (28 : Int)) then
     some (p0 == (28 : Int))
    else
     if (p0 == (33 : Int)) then
      some (p0 == (33 : Int))
     else
      if (p0 == (34 : Int)) then
       some (p0 == (34 : Int))
      else
       if (p0 == (39 : Int)) then
        some (p0 == (39 : Int))
       else
        some (p0 == (53 : Int))) : Option Bool).bind (fun v21_0 =>
   if v21_0 then
    some (⟨#[50]⟩ : ByteArray)
   else
    ((
     if (p0 == (29 : Int)) then
      some (p0 == (29 : Int))
     else
      if (p0 == (30 : Int)) then
       some (p0 == (30 : Int))
      else
       if (p0 == (31 : Int)) then
        some (p0 == (31 : Int))
       else
        some (p0 == (32 : Int))) : Option Bool).bind (fun v28_0 =>
    if v28_0 then
     some (⟨#[50, 50]⟩ : ByteArray)
    else
     ((
      if (p0 == (35 : Int)) then
       some (p0 == (35 : Int))
      else
       some (p0 == (36 : Int))) : Option Bool).bind (fun v34_0 =>
     if v34_0 then
      some (⟨#[51, 50]⟩ : ByteArray)
     else
      ((
       if (p0 == (57 : Int)) then
        some (p0 == (57 : Int))
       else
        some (p0 == (58 : Int))) : Option Bool).bind (fun v38_0 =>
      if v38_0 then
       some (⟨#[51, 51]⟩ : ByteArray)
      else
       ((
        if (p0 == (59 : Int)) then
         some (p0 == (59 : Int))
        else
         some (p0 == (60 : Int))) : Option Bool).bind (fun v42_0 =>
       if v42_0 then
        some (⟨#[51]⟩ : ByteArray)
       else
        some (⟨#[]⟩ : ByteArray))))))))
set_option maxHeartbeats 4000000 in
theorem r08_kids_ok {K : Nat} {p0 : Int} {r : ByteArray} (h : r08_kids K p0 = some r) : Cn Tryz.prog 93 [.d (.val (.int .i64 p0))] (.d (.val (.string r))) := by
 refine Cn.oz Tryz.func93 Tryz.call93 Tryz.ntmps93 Tryz.results93 fun hfit => ?_
 unfold r08_kids at h
 refine AW.kr [] [0] ?_
 refine AW.ks [] [0] ?_
 refine AW.one ?_
 refine AW.ro ?_
 refine AW.ks [] [3] ?_
 refine AW.block ?_
 refine AW.jn h (fun v1_0 => [(3, vI p0), (4, vB v1_0)]) (fun v1_0 => []) (fun oJ2 h => ?_) fun v1_0 h => ?_
 ·refine AW.ro ?_
  refine AW.ks [] [3, 4] ?_
  refine AW.tt h (fun hb3 h => ?_) fun hb3 h => ?_
  ·refine AW.sk ?_
   exact ja [] h
  refine AW.ro ?_
  refine AW.ks [] [3, 4] ?_
  refine AW.tt h (fun hb4 h => ?_) fun hb4 h => ?_
  ·refine AW.sk ?_
   exact ja [] h
  refine AW.ro ?_
  refine AW.ks [] [3, 4] ?_
  refine AW.tt h (fun hb5 h => ?_) fun hb5 h => ?_
  ·refine AW.sk ?_
   exact ja [] h
  refine AW.ro ?_
  refine AW.ks [] [3, 4] ?_
  refine AW.tt h (fun hb6 h => ?_) fun hb6 h => ?_
  ·refine AW.sk ?_
   exact ja [] h
  refine AW.rp ?_
  exact ja [] h
 refine AW.tt h (fun hb7 h => ?_) fun hb7 h => ?_
 ·refine AW.ro ?_
  refine AW.ret ?_
  cases h; refine nz ?_; exact .same _
 refine AW.jn h (fun v8_0 => [(3, vI p0), (10, vB v8_0)]) (fun v8_0 => []) (fun oJ9 h => ?_) fun v8_0 h => ?_
 ·refine AW.ro ?_
  refine AW.ks [] [3, 10] ?_
  refine AW.tt h (fun hb10 h => ?_) fun hb10 h => ?_
  ·refine AW.sk ?_
   exact ja [] h
  refine AW.ro ?_
  refine AW.ks [] [3, 10] ?_
  refine AW.tt h (fun hb11 h => ?_) fun hb11 h => ?_
  ·refine AW.sk ?_
   exact ja [] h
  refine AW.ro ?_
  refine AW.ks [] [3, 10] ?_
  refine AW.tt h (fun hb12 h => ?_) fun hb12 h => ?_
  ·refine AW.sk ?_
   exact ja [] h
  refine AW.ro ?_
  refine AW.ks [] [3, 10] ?_
  refine AW.tt h (fun hb13 h => ?_) fun hb13 h => ?_
  ·refine AW.sk ?_
   exact ja [] h
  refine AW.ro ?_
  refine AW.ks [] [3, 10] ?_
  refine AW.tt h (fun hb14 h => ?_) fun hb14 h => ?_
  ·refine AW.sk ?_
   exact ja [] h
  refine AW.ro ?_
  refine AW.ks [] [3, 10] ?_
  refine AW.tt h (fun hb15 h => ?_) fun hb15 h => ?_
  ·refine AW.sk ?_
   exact ja [] h
  refine AW.ro ?_
  refine AW.ks [] [3, 10] ?_
  refine AW.tt h (fun hb16 h => ?_) fun hb16 h => ?_
  ·refine AW.sk ?_
   exact ja [] h
  refine AW.ro ?_
  refine AW.ks [] [3, 10] ?_
  refine AW.tt h (fun hb17 h => ?_) fun hb17 h => ?_
  ·refine AW.sk ?_
   exact ja [] h
  refine AW.ro ?_
  refine AW.ks [] [3, 10] ?_
  refine AW.tt h (fun hb18 h => ?_) fun hb18 h => ?_
  ·refine AW.sk ?_
   exact ja [] h
  refine AW.ro ?_
  refine AW.ks [] [3, 10] ?_
  refine AW.tt h (fun hb19 h => ?_) fun hb19 h => ?_
  ·refine AW.sk ?_
   exact ja [] h
  refine AW.rp ?_
  exact ja [] h
 refine AW.tt h (fun hb20 h => ?_) fun hb20 h => ?_
 ·refine AW.ro ?_
  refine AW.ret ?_
  cases h; refine nz ?_; exact .same _
 refine AW.jn h (fun v21_0 => [(3, vI p0), (22, vB v21_0)]) (fun v21_0 => []) (fun oJ22 h => ?_) fun v21_0 h => ?_
 ·refine AW.ro ?_
  refine AW.ks [] [3, 22] ?_
  refine AW.tt h (fun hb23 h => ?_) fun hb23 h => ?_
  ·refine AW.sk ?_
   exact ja [] h
  refine AW.ro ?_
  refine AW.ks [] [3, 22] ?_
  refine AW.tt h (fun hb24 h => ?_) fun hb24 h => ?_
  ·refine AW.sk ?_
   exact ja [] h
  refine AW.ro ?_
  refine AW.ks [] [3, 22] ?_
  refine AW.tt h (fun hb25 h => ?_) fun hb25 h => ?_
  ·refine AW.sk ?_
   exact ja [] h
  refine AW.ro ?_
  refine AW.ks [] [3, 22] ?_
  refine AW.tt h (fun hb26 h => ?_) fun hb26 h => ?_
  ·refine AW.sk ?_
   exact ja [] h
  refine AW.rp ?_
  exact ja [] h
 refine AW.tt h (fun hb27 h => ?_) fun hb27 h => ?_
 ·refine AW.ro ?_
  refine AW.ret ?_
  cases h; refine nz ?_; exact .same _
 refine AW.jn h (fun v28_0 => [(3, vI p0), (28, vB v28_0)]) (fun v28_0 => []) (fun oJ29 h => ?_) fun v28_0 h => ?_
 ·refine AW.ro ?_
  refine AW.ks [] [3, 28] ?_
  refine AW.tt h (fun hb30 h => ?_) fun hb30 h => ?_
  ·refine AW.sk ?_
   exact ja [] h
  refine AW.ro ?_
  refine AW.ks [] [3, 28] ?_
  refine AW.tt h (fun hb31 h => ?_) fun hb31 h => ?_
  ·refine AW.sk ?_
   exact ja [] h
  refine AW.ro ?_
  refine AW.ks [] [3, 28] ?_
  refine AW.tt h (fun hb32 h => ?_) fun hb32 h => ?_
  ·refine AW.sk ?_
   exact ja [] h
  refine AW.rp ?_
  exact ja [] h
 refine AW.tt h (fun hb33 h => ?_) fun hb33 h => ?_
 ·refine AW.ro ?_
  refine AW.ret ?_
  cases h; refine nz ?_; exact .same _
 refine AW.jn h (fun v34_0 => [(3, vI p0), (33, vB v34_0)]) (fun v34_0 => []) (fun oJ35 h => ?_) fun v34_0 h => ?_
 ·refine AW.ro ?_
  refine AW.ks [] [3, 33] ?_
  refine AW.tt h (fun hb36 h => ?_) fun hb36 h => ?_
  ·refine AW.sk ?_
   exact ja [] h
  refine AW.rp ?_
  exact ja [] h
 refine AW.tt h (fun hb37 h => ?_) fun hb37 h => ?_
 ·refine AW.ro ?_
  refine AW.ret ?_
  cases h; refine nz ?_; exact .same _
 refine AW.jn h (fun v38_0 => [(3, vI p0), (36, vB v38_0)]) (fun v38_0 => []) (fun oJ39 h => ?_) fun v38_0 h => ?_
 ·refine AW.ro ?_
  refine AW.ks [] [3, 36] ?_
  refine AW.tt h (fun hb40 h => ?_) fun hb40 h => ?_
  ·refine AW.sk ?_
   exact ja [] h
  refine AW.rp ?_
  exact ja [] h
 refine AW.tt h (fun hb41 h => ?_) fun hb41 h => ?_
 ·refine AW.ro ?_
  refine AW.ret ?_
  cases h; refine nz ?_; exact .same _
 refine AW.jn h (fun v42_0 => [(39, vB v42_0)]) (fun v42_0 => []) (fun oJ43 h => ?_) fun v42_0 h => ?_
 ·refine AW.ro ?_
  refine AW.ks [] [3, 39] ?_
  refine AW.tt h (fun hb44 h => ?_) fun hb44 h => ?_
  ·refine AW.sk ?_
   exact ja [] h
  refine AW.rp ?_
  exact ja [] h
 refine AW.tk h (fun hb45 h => ?_) fun hb45 h => ?_
 ·refine AW.ro ?_
  refine AW.ret ?_
  cases h; refine nz ?_; exact .same _
 refine AW.kr [] [] ?_
 refine AW.ret ?_
 cases h; refine nz ?_; exact .same _
/-! ### isochrone/isochroneref08.named -/
def r08_named (K : Nat) (p0 : Int) : Option Bool := ((
  if (p0 == (2 : Int)) then
   some (p0 == (2 : Int))
  else
   if (p0 == (3 : Int)) then
    some (p0 == (3 : Int))
   else
    if (p0 == (10 : Int)) then
     some (p0 == (10 : Int))
    else
     if (p0 == (11 : Int)) then
      some (p0 == (11 : Int))
     else
      if (p0 == (33 : Int)) then
       some (p0 == (33 : Int))
      else
       if (p0 == (34 : Int)) then
        some (p0 == (34 : Int))
       else
        if (p0 == (37 : Int)) then
         some (p0 == (37 : Int))
        else
         if (p0 == (38 : Int)) then
          some (p0 == (38 : Int))
         else
          if (p0 == (50 : Int)) then
           some (p0 == (50 : Int))
          else
           if (p0 == (51 : Int)) then
            some (p0 == (51 : Int))
           else
            if (p0 == (52 : Int)) then
             some (p0 == (52 : Int))
            else
             if (p0 == (55 : Int)) then
              some (p0 == (55 : Int))
             else
              if (p0 == (56 : Int)) then
               some (p0 == (56 : Int))
              else
               if (p0 == (61 : Int)) then
                some (p0 == (61 : Int))
               else
                some (p0 == (62 : Int))) : Option Bool).bind (fun v1_0 =>
 if v1_0 then
  some true
 else
  some false)
set_option maxHeartbeats 4000000 in
theorem r08_named_ok {K : Nat} {p0 : Int} {r : Bool} (h : r08_named K p0 = some r) : Cn Tryz.prog 89 [.d (.val (.int .i64 p0))] (.d (.val (.bool r))) := by
 refine Cn.oz Tryz.func89 Tryz.call89 Tryz.ntmps89 Tryz.results89 fun hfit => ?_
 unfold r08_named at h
 refine AW.kr [] [0] ?_
 refine AW.ks [] [0] ?_
 refine AW.one ?_
 refine AW.ro ?_
 refine AW.ks [] [3] ?_
 refine AW.block ?_
 refine AW.jn h (fun v1_0 => [(4, vB v1_0)]) (fun v1_0 => []) (fun oJ2 h => ?_) fun v1_0 h => ?_
 ·refine AW.ro ?_
  refine AW.ks [] [3, 4] ?_
  refine AW.tt h (fun hb3 h => ?_) fun hb3 h => ?_
  ·refine AW.sk ?_
   exact ja [] h
  refine AW.ro ?_
  refine AW.ks [] [3, 4] ?_
  refine AW.tt h (fun hb4 h => ?_) fun hb4 h => ?_
  ·refine AW.sk ?_
   exact ja [] h
  refine AW.ro ?_
  refine AW.ks [] [3, 4] ?_
  refine AW.tt h (fun hb5 h => ?_) fun hb5 h => ?_
  ·refine AW.sk ?_
   exact ja [] h
  refine AW.ro ?_
  refine AW.ks [] [3, 4] ?_
  refine AW.tt h (fun hb6 h => ?_) fun hb6 h => ?_
  ·refine AW.sk ?_
   exact ja [] h
  refine AW.ro ?_
  refine AW.ks [] [3, 4] ?_
  refine AW.tt h (fun hb7 h => ?_) fun hb7 h => ?_
  ·refine AW.sk ?_
   exact ja [] h
  refine AW.ro ?_
  refine AW.ks [] [3, 4] ?_
  refine AW.tt h (fun hb8 h => ?_) fun hb8 h => ?_
  ·refine AW.sk ?_
   exact ja [] h
  refine AW.ro ?_
  refine AW.ks [] [3, 4] ?_
  refine AW.tt h (fun hb9 h => ?_) fun hb9 h => ?_
  ·refine AW.sk ?_
   exact ja [] h
  refine AW.ro ?_
  refine AW.ks [] [3, 4] ?_
  refine AW.tt h (fun hb10 h => ?_) fun hb10 h => ?_
  ·refine AW.sk ?_
   exact ja [] h
  refine AW.ro ?_
  refine AW.ks [] [3, 4] ?_
  refine AW.tt h (fun hb11 h => ?_) fun hb11 h => ?_
  ·refine AW.sk ?_
   exact ja [] h
  refine AW.ro ?_
  refine AW.ks [] [3, 4] ?_
  refine AW.tt h (fun hb12 h => ?_) fun hb12 h => ?_
  ·refine AW.sk ?_
   exact ja [] h
  refine AW.ro ?_
  refine AW.ks [] [3, 4] ?_
  refine AW.tt h (fun hb13 h => ?_) fun hb13 h => ?_
  ·refine AW.sk ?_
   exact ja [] h
  refine AW.ro ?_
  refine AW.ks [] [3, 4] ?_
  refine AW.tt h (fun hb14 h => ?_) fun hb14 h => ?_
  ·refine AW.sk ?_
   exact ja [] h
  refine AW.ro ?_
  refine AW.ks [] [3, 4] ?_
  refine AW.tt h (fun hb15 h => ?_) fun hb15 h => ?_
  ·refine AW.sk ?_
   exact ja [] h
  refine AW.ro ?_
  refine AW.ks [] [3, 4] ?_
  refine AW.tt h (fun hb16 h => ?_) fun hb16 h => ?_
  ·refine AW.sk ?_
   exact ja [] h
  refine AW.rp ?_
  exact ja [] h
 refine AW.tk h (fun hb17 h => ?_) fun hb17 h => ?_
 ·refine AW.ro ?_
  refine AW.ret ?_
  cases h; refine nz ?_; exact .same _
 refine AW.kr [] [] ?_
 refine AW.ret ?_
 cases h; refine nz ?_; exact .same _
/-! ### isochrone/isochroneref08.natural -/
def r08_natural (K : Nat) (p0 : RatA) : Option Bool := ((
  ((
   if p0.neg then
    some true
   else
    if ((p0.den.length : Int) != (1 : Int)) then
     some true
    else
     (idx p0.den (0 : Int)).bind fun x7 =>
     if (x7 != (1 : Int)) then
      some true
     else
      some (decide ((20 : Int) < (p0.num.length : Int)))) : Option Bool).bind (fun v3_0 =>
  if v3_0 then
   outM (
    some false)
  else
   some (.go ()))) : Option (Out Unit _)).bind (Out.fin fun _ =>
 if ((p0.num.length : Int) == (0 : Int)) then
  some true
 else
  (idx p0.num (IntKind.wrap .i64 ((p0.num.length : Int) - (1 : Int)))).bind fun x12 =>
  some (x12 != (0 : Int)))
set_option maxHeartbeats 4000000 in
theorem r08_natural_ok {K : Nat} {p0 : RatA} {r : Bool} (h : r08_natural K p0 = some r) : Cn Tryz.prog 91 [aggV p0.enc] (.d (.val (.bool r))) := by
 refine Cn.oz Tryz.func91 Tryz.call91 Tryz.ntmps91 Tryz.results91 fun hfit => ?_
 unfold r08_natural at h
 refine AW.kr [] [0] ?_
 refine AW.ks [0] [1] ?_
 refine AW.jo h (fun _ => [(1, .ptr 0 3 0 0)]) (fun _ => [vE p0.enc]) (fun oJ2 h hJ2 => ?_) fun ⟨⟩ h => ?_
 ·refine AW.jn h (fun v3_0 => [(1, .ptr 0 3 0 0), (23, vB v3_0)]) (fun v3_0 => [vE p0.enc]) (fun oJ4 h => ?_) fun v3_0 h => ?_
  ·refine AW.rp ?_
   refine sK h (fun hb5 h => ?_) fun hb5 h => ?_
   ·exact ja [0] h
   refine sK h (fun hb6 h => ?_) fun hb6 h => ?_
   ·exact ja [0] h
   refine bx h fun x7 h0 h1 h => ?_
   refine sK h (fun hb9 h => ?_) fun hb9 h => ?_
   ·exact ja [0] h
   exact ja [0] h
  refine AW.tk h (fun hb10 h => ?_) fun hb10 h => ?_
  ·refine AW.ro ?_
   refine AW.ret ?_
   have h := up h hJ2
   cases h; refine nz ?_; exact .same _
  exact jo [0] h
 refine AW.ro ?_
 refine sK h (fun hb11 h => ?_) fun hb11 h => ?_
 ·refine AW.ret ?_
  cases h; refine nz ?_; exact .same _
 refine bx h fun x12 h0 h1 h => ?_
 refine AW.ret ?_
 cases h; refine nz ?_; exact .same _
/-! ### isochrone/isochroneref08.primed -/
def r08_primed_body (K : Nat) (self125 : NodeA → Option Bool) (p0 : NodeA) : Option Bool := ((
  ((
   if (p0.op == (3 : Int)) then
    some true
   else
    if (p0.op == (12 : Int)) then
     some true
    else
     some (p0.op == (39 : Int))) : Option Bool).bind (fun v3_0 =>
  if v3_0 then
   outM (
    some true)
  else
   some (.go ()))) : Option (Out Unit _)).bind (Out.fin fun _ =>
 ((iter (S := Int) (R := Out Unit _) K (fun again i8_0 =>
  if (decide (i8_0 < (p0.kids.length : Int))) then
   (idx p0.kids i8_0).bind fun x13 =>
   (self125 (x13)).bind fun r15 =>
   if r15 then
    outM (
     some true)
   else
    again (IntKind.wrap .i64 (i8_0 + (1 : Int)))
  else
   some (.go ())) (0 : Int)) : Option (Out Unit _)).bind (Out.fin fun _ =>
 some false))
set_option maxHeartbeats 4000000 in
theorem r08_primed_step (K : Nat) (self125 : NodeA → Option Bool) (hself125 : ∀ (q : NodeA) (r : Bool), self125 q = some r → Cn Tryz.prog 125 [aggV q.enc] (.d (.val (.bool r)))) (p0 : NodeA) (r : Bool) (h : r08_primed_body K self125 p0 = some r) : Cn Tryz.prog 125 [aggV p0.enc] (.d (.val (.bool r))) := by
 refine Cn.oz Tryz.func125 Tryz.call125 Tryz.ntmps125 Tryz.results125 fun hfit => ?_
 unfold r08_primed_body at h
 refine AW.kr [] [0] ?_
 refine AW.ks [0] [1] ?_
 refine AW.jo h (fun _ => [(1, .ptr 0 6 0 0)]) (fun _ => [vE p0.enc]) (fun oJ2 h hJ2 => ?_) fun ⟨⟩ h => ?_
 ·refine AW.jn h (fun v3_0 => [(1, .ptr 0 6 0 0), (16, vB v3_0)]) (fun v3_0 => [vE p0.enc]) (fun oJ4 h => ?_) fun v3_0 h => ?_
  ·refine AW.rp ?_
   refine sK h (fun hb5 h => ?_) fun hb5 h => ?_
   ·exact ja [0] h
   refine sK h (fun hb6 h => ?_) fun hb6 h => ?_
   ·exact ja [0] h
   exact ja [0] h
  refine AW.tk h (fun hb7 h => ?_) fun hb7 h => ?_
  ·refine AW.ro ?_
   refine AW.ret ?_
   have h := up h hJ2
   cases h; refine nz ?_; exact .same _
  exact jo [0] h
 refine AW.one ?_
 refine AW.ro ?_
 refine AW.ks [0] [1, 3] ?_
 refine AW.lp h (fun _ => []) (fun _ => []) (fun i8_0 => [(1, .ptr 0 6 0 0), (3, vI i8_0)]) (fun i8_0 => [vE p0.enc]) [0] (fun oJ11 hJ11 again i8_0 h => ?_) fun ⟨⟩ h => ?_
 ·refine AW.one ?_
  refine AW.ro ?_
  refine AW.ks [0] [1, 3, 21] ?_
  refine AW.tt h (fun hb12 h => ?_) fun hb12 h => ?_
  ·refine AW.sk ?_
   refine AW.ks [0] [1, 3] ?_
   refine AW.one ?_
   refine AW.block ?_
   refine AW.ro ?_
   refine bx h fun x13 h0 h1 h => ?_
   refine cm h (hself125 _ _) fun r15 hx16 h => ?_
   refine AW.ks [0] [1, 3, 29] ?_
   refine AW.tk h (fun hb17 h => ?_) fun hb17 h => ?_
   ·refine AW.ro ?_
    refine AW.ret ?_
    have h := up h hJ11
    cases h; refine nz ?_; exact .same _
   refine AW.ks [0] [1, 3] ?_
   refine AW.rp ?_
   exact na [0] h
  refine AW.ex ?_
  exact jo [] h
 refine AW.kr [] [] ?_
 refine AW.ret ?_
 cases h; refine nz ?_; exact .same _
def r08_primed (K : Nat) (p0 : NodeA) : Option Bool := iter K (fun self q => r08_primed_body K self q) p0
theorem key_r08_primed {K : Nat} (k : Nat) : (∀ (q : NodeA) (r : Bool), iter k (fun self q => r08_primed_body K self q) q = some r → Cn Tryz.prog 125 [aggV q.enc] (.d (.val (.bool r)))) := by
 induction k with
 | zero => exact fun q r h => by cases h
 | succ k ih => exact fun q r h => r08_primed_step K _ ih q r h
theorem r08_primed_ok {K : Nat} {p0 : NodeA} {r : Bool} (h : r08_primed K p0 = some r) : Cn Tryz.prog 125 [aggV p0.enc] (.d (.val (.bool r))) := (key_r08_primed K) p0 r h
/-! ### isochrone/isochroneref08.well -/
def r08_well_body (K : Nat) (self53 : (NodeA × Int × Bool × Bool) → Option Bool) (self92 : (NodeA × Bool × Bool) → Option Bool) (p0 : NodeA) (p1 : Int) (p2 : Bool) (p3 : Bool) : Option Bool := ((
  ((
   (r08_Sort K p0.op).bind fun r5 =>
   if (r5 != p1) then
    some true
   else
    (r08_named K p0.op).bind fun r8 =>
    (r08_Name K p0.name).bind fun r10 =>
    if (!(r8 == r10)) then
     some true
    else
     (r08_named K p0.op).bind fun r13 =>
     if (!r13) then
      some (!(p0.name.toList == (⟨#[]⟩ : ByteArray).toList))
     else
      some false) : Option Bool).bind (fun v3_0 =>
  if v3_0 then
   outM (
    some false)
  else
   some (.go ()))) : Option (Out Unit _)).bind (Out.fin fun _ =>
 ((
  if (p0.op == (1 : Int)) then
   (r08_natural K p0.num).bind fun r20 =>
   if (!r20) then
    outM (
     some false)
   else
    some (.go ())
  else
   ((
    if p0.num.neg then
     some true
    else
     if (decide ((0 : Int) < (p0.num.num.length : Int))) then
      some true
     else
      some (decide ((0 : Int) < (p0.num.den.length : Int)))) : Option Bool).bind (fun v23_0 =>
   if v23_0 then
    outM (
     some false)
   else
    some (.go ()))) : Option (Out Unit _)).bind (Out.fin fun _ =>
 ((
  ((
   if p2 then
    if (p0.op == (12 : Int)) then
     some true
    else
     some (p0.op == (3 : Int))
   else
    if p3 then
     some (p0.op == (3 : Int))
    else
     some false) : Option Bool).bind (fun v30_0 =>
  if v30_0 then
   outM (
    some false)
  else
   some (.go ()))) : Option (Out Unit _)).bind (Out.fin fun _ =>
 if (p0.op == (54 : Int)) then
  (self92 (p0, p2, p3)).bind fun r37 =>
  some r37
 else
  (r08_kids K p0.op).bind fun r39 =>
  ((
   ((
    if (p0.op == (10 : Int)) then
     some true
    else
     some (p0.op == (37 : Int))) : Option Bool).bind (fun v43_0 =>
   if v43_0 then
    if ((p0.kids.length : Int) == (1 : Int)) then
     some (⟨#[49]⟩ : ByteArray)
    else
     some r39
   else
    some r39)) : Option ByteArray).bind (fun v41_0 =>
  if ((v41_0.size : Int) != (p0.kids.length : Int)) then
   some false
  else
   ((iter (S := Int) (R := Out Unit _) K (fun again i49_0 =>
    if (decide (i49_0 < (v41_0.size : Int))) then
     ((
      ((
       (idx p0.kids i49_0).bind fun x58 =>
       (strAt v41_0 i49_0).bind fun c60 =>
       if p2 then
        if p3 then
         (self53 (x58, IntKind.wrap .i64 (IntKind.wrap .u8 ((c60.toNat : Int) - (48 : Int))), true, true)).bind fun r64 =>
         some (!r64)
        else
         (self53 (x58, IntKind.wrap .i64 (IntKind.wrap .u8 ((c60.toNat : Int) - (48 : Int))), true, (p0.op == (39 : Int)))).bind fun r66 =>
         some (!r66)
       else
        if p3 then
         (self53 (x58, IntKind.wrap .i64 (IntKind.wrap .u8 ((c60.toNat : Int) - (48 : Int))), (p0.op == (12 : Int)), true)).bind fun r69 =>
         some (!r69)
        else
         (self53 (x58, IntKind.wrap .i64 (IntKind.wrap .u8 ((c60.toNat : Int) - (48 : Int))), (p0.op == (12 : Int)), (p0.op == (39 : Int)))).bind fun r71 =>
         some (!r71)) : Option Bool).bind (fun v56_0 =>
      if v56_0 then
       outM (
        outM (
         some false))
      else
       some (.go ()))) : Option (Out Unit _)).bind (Out.fin fun _ =>
     again (IntKind.wrap .i64 (i49_0 + (1 : Int))))
    else
     some (.go ())) (0 : Int)) : Option (Out Unit _)).bind (Out.fin fun _ =>
   if (p0.op == (8 : Int)) then
    (idx p0.kids (1 : Int)).bind fun x75 =>
    if (x75.op == (1 : Int)) then
     some (decide ((0 : Int) < (x75.num.num.length : Int)))
    else
     some false
   else
    if (p0.op == (9 : Int)) then
     (idx p0.kids (1 : Int)).bind fun x79 =>
     if (x79.op == (1 : Int)) then
      (r08_Natural K x79.num (20 : Int)).bind fun r82 =>
      some (decide ((0 : Int) ≤ r82))
     else
      some false
    else
     if (p0.op == (39 : Int)) then
      (idx p0.kids (0 : Int)).bind fun x85 =>
      (r08_differential K x85).bind fun r87 =>
      some r87
     else
      some true)))))
set_option maxHeartbeats 4000000 in
theorem r08_well_step (K : Nat) (self53 : (NodeA × Int × Bool × Bool) → Option Bool) (self92 : (NodeA × Bool × Bool) → Option Bool) (hself53 : ∀ (q : NodeA × Int × Bool × Bool) (r : Bool), self53 q = some r → Cn Tryz.prog 53 [aggV q.1.enc, .d (.val (.int .i64 q.2.1)), .d (.val (.bool q.2.2.1)), .d (.val (.bool q.2.2.2))] (.d (.val (.bool r)))) (hself92 : ∀ (q : NodeA × Bool × Bool) (r : Bool), self92 q = some r → Cn Tryz.prog 92 [aggV q.1.enc, .d (.val (.bool q.2.1)), .d (.val (.bool q.2.2))] (.d (.val (.bool r)))) (p0 : NodeA) (p1 : Int) (p2 : Bool) (p3 : Bool) (r : Bool) (h : r08_well_body K self53 self92 p0 p1 p2 p3 = some r) : Cn Tryz.prog 53 [aggV p0.enc, .d (.val (.int .i64 p1)), .d (.val (.bool p2)), .d (.val (.bool p3))] (.d (.val (.bool r))) := by
 have q0 := fun k z => cv_int (k' := k) (z := z) Tryz.underlying5 Tryz.underlying3
 refine Cn.oz Tryz.func53 Tryz.call53 Tryz.ntmps53 Tryz.results53 fun hfit => ?_
 unfold r08_well_body at h
 refine AW.kr [] [0, 1, 2, 3] ?_
 refine AW.ks [0] [1, 2, 3, 4] ?_
 refine AW.jo h (fun _ => [(2, vB p2), (3, vB p3), (4, .ptr 0 6 0 0)]) (fun _ => [vE p0.enc]) (fun oJ2 h hJ2 => ?_) fun ⟨⟩ h => ?_
 ·refine AW.jn h (fun v3_0 => [(2, vB p2), (3, vB p3), (4, .ptr 0 6 0 0), (35, vB v3_0)]) (fun v3_0 => [vE p0.enc]) (fun oJ4 h => ?_) fun v3_0 h => ?_
  ·refine AW.rp ?_
   refine pm h r08_Sort_ok fun r5 hx6 h => ?_
   refine sK h (fun hb7 h => ?_) fun hb7 h => ?_
   ·exact ja [0] h
   refine pm h r08_named_ok fun r8 hx9 h => ?_
   refine pm h r08_Name_ok fun r10 hx11 h => ?_
   refine sK h (fun hb12 h => ?_) fun hb12 h => ?_
   ·exact ja [0] h
   refine pm h r08_named_ok fun r13 hx14 h => ?_
   refine sK h (fun hb15 h => ?_) fun hb15 h => ?_
   ·exact ja [0] h
   exact ja [0] h
  refine AW.tk h (fun hb16 h => ?_) fun hb16 h => ?_
  ·refine AW.ro ?_
   refine AW.ret ?_
   have h := up h hJ2
   cases h; refine nz ?_; exact .same _
  exact jo [0] h
 refine AW.jo h (fun _ => [(2, vB p2), (3, vB p3), (4, .ptr 0 6 0 0)]) (fun _ => [vE p0.enc]) (fun oJ18 h hJ18 => ?_) fun ⟨⟩ h => ?_
 ·refine AW.ro ?_
  refine AW.ks [0] [2, 3, 4, 38] ?_
  refine AW.tt h (fun hb19 h => ?_) fun hb19 h => ?_
  ·refine AW.ro ?_
   refine cm h r08_natural_ok fun r20 hx21 h => ?_
   refine AW.ks [0] [2, 3, 4, 42] ?_
   refine AW.tk h (fun hb22 h => ?_) fun hb22 h => ?_
   ·refine AW.ro ?_
    refine AW.ret ?_
    have h := up h hJ18
    cases h; refine nz ?_; exact .same _
   exact jo [0] h
  refine AW.jn h (fun v23_0 => [(2, vB p2), (3, vB p3), (4, .ptr 0 6 0 0), (59, vB v23_0)]) (fun v23_0 => [vE p0.enc]) (fun oJ24 h => ?_) fun v23_0 h => ?_
  ·refine AW.rp ?_
   refine sK h (fun hb25 h => ?_) fun hb25 h => ?_
   ·exact ja [0] h
   refine sK h (fun hb26 h => ?_) fun hb26 h => ?_
   ·exact ja [0] h
   exact ja [0] h
  refine AW.tk h (fun hb27 h => ?_) fun hb27 h => ?_
  ·refine AW.ro ?_
   refine AW.ret ?_
   have h := up h hJ18
   cases h; refine nz ?_; exact .same _
  exact jo [0] h
 refine AW.jo h (fun _ => [(2, vB p2), (3, vB p3), (4, .ptr 0 6 0 0)]) (fun _ => [vE p0.enc]) (fun oJ29 h hJ29 => ?_) fun ⟨⟩ h => ?_
 ·refine AW.jn h (fun v30_0 => [(2, vB p2), (3, vB p3), (4, .ptr 0 6 0 0), (76, vB v30_0)]) (fun v30_0 => [vE p0.enc]) (fun oJ31 h => ?_) fun v30_0 h => ?_
  ·refine AW.rp ?_
   refine sK h (fun hb32 h => ?_) fun hb32 h => ?_
   ·refine sK h (fun hb33 h => ?_) fun hb33 h => ?_
    ·exact ja [0] h
    exact ja [0] h
   refine sK h (fun hb34 h => ?_) fun hb34 h => ?_
   ·exact ja [0] h
   exact ja [0] h
  refine AW.tk h (fun hb35 h => ?_) fun hb35 h => ?_
  ·refine AW.ro ?_
   refine AW.ret ?_
   have h := up h hJ29
   cases h; refine nz ?_; exact .same _
  exact jo [0] h
 refine AW.one ?_
 refine AW.ro ?_
 refine AW.ks [0] [2, 3, 4, 79] ?_
 refine AW.tk h (fun hb36 h => ?_) fun hb36 h => ?_
 ·refine AW.ro ?_
  refine cm h (hself92 _ _) fun r37 hx38 h => ?_
  refine AW.ret ?_
  cases h; refine nz ?_; exact .same _
 refine AW.kr [0] [2, 3, 4] ?_
 refine cm h r08_kids_ok fun r39 hx40 h => ?_
 refine AW.ks [0] [2, 3, 4, 9] ?_
 refine AW.jn h (fun v41_0 => [(2, vB p2), (3, vB p3), (4, .ptr 0 6 0 0), (9, vS v41_0)]) (fun v41_0 => [vE p0.enc]) (fun oJ42 h => ?_) fun v41_0 h => ?_
 ·refine AW.jn h (fun v43_0 => [(2, vB p2), (3, vB p3), (4, .ptr 0 6 0 0), (9, vS r39), (94, vB v43_0)]) (fun v43_0 => [vE p0.enc]) (fun oJ44 h => ?_) fun v43_0 h => ?_
  ·refine AW.rp ?_
   refine sK h (fun hb45 h => ?_) fun hb45 h => ?_
   ·exact ja [0] h
   exact ja [0] h
  refine AW.tk h (fun hb46 h => ?_) fun hb46 h => ?_
  ·refine AW.ro ?_
   refine AW.ks [0] [2, 3, 4, 9, 98] ?_
   refine AW.tk h (fun hb47 h => ?_) fun hb47 h => ?_
   ·refine AW.rp ?_
    exact ja [0] h
   exact ja [0] h
  exact ja [0] h
 refine AW.one ?_
 refine AW.ro ?_
 refine AW.ks [0] [2, 3, 4, 9, 104] ?_
 refine AW.tk h (fun hb48 h => ?_) fun hb48 h => ?_
 ·refine AW.ro ?_
  refine AW.ret ?_
  cases h; refine nz ?_; exact .same _
 refine AW.ks [0] [2, 3, 4, 9] ?_
 refine AW.one ?_
 refine AW.ro ?_
 refine AW.ks [0] [2, 3, 4, 9, 10] ?_
 refine AW.lp h (fun _ => [(4, .ptr 0 6 0 0)]) (fun _ => [vE p0.enc]) (fun i49_0 => [(2, vB p2), (3, vB p3), (4, .ptr 0 6 0 0), (9, vS v41_0), (10, vI i49_0)]) (fun i49_0 => [vE p0.enc]) [0] (fun oJ52 hJ52 again i49_0 h => ?_) fun ⟨⟩ h => ?_
 ·refine AW.one ?_
  refine AW.ro ?_
  refine AW.ks [0] [2, 3, 4, 9, 10, 108] ?_
  refine AW.tt h (fun hb53 h => ?_) fun hb53 h => ?_
  ·refine AW.sk ?_
   refine AW.ks [0] [2, 3, 4, 9, 10] ?_
   refine AW.jo h (fun _ => [(2, vB p2), (3, vB p3), (4, .ptr 0 6 0 0), (9, vS v41_0), (10, vI i49_0)]) (fun _ => [vE p0.enc]) (fun oJ55 h hJ55 => ?_) fun ⟨⟩ h => ?_
   ·refine AW.block ?_
    refine AW.jn h (fun v56_0 => [(2, vB p2), (3, vB p3), (4, .ptr 0 6 0 0), (9, vS v41_0), (10, vI i49_0), (134, vB v56_0)]) (fun v56_0 => [vE p0.enc]) (fun oJ57 h => ?_) fun v56_0 h => ?_
    ·refine AW.rp ?_
     refine bx h fun x58 h0 h1 h => ?_
     refine bb h fun c60 hx61 h => ?_
     refine sK h (fun hb62 h => ?_) fun hb62 h => ?_
     ·refine sK h (fun hb63 h => ?_) fun hb63 h => ?_
      ·refine pm h (hself53 _ _) fun r64 hx65 h => ?_
       exact ja [0] h
      refine pm h (hself53 _ _) fun r66 hx67 h => ?_
      exact ja [0] h
     refine sK h (fun hb68 h => ?_) fun hb68 h => ?_
     ·refine pm h (hself53 _ _) fun r69 hx70 h => ?_
      exact ja [0] h
     refine pm h (hself53 _ _) fun r71 hx72 h => ?_
     exact ja [0] h
    refine AW.tk h (fun hb73 h => ?_) fun hb73 h => ?_
    ·refine AW.ro ?_
     refine AW.ret ?_
     have h := up h hJ55
     have h := up h hJ52
     cases h; refine nz ?_; exact .same _
    exact jo [0] h
   refine AW.rp ?_
   exact na [0] h
  refine AW.ex ?_
  exact jo [0] h
 refine AW.ks [0] [4] ?_
 refine AW.one ?_
 refine AW.ro ?_
 refine AW.ks [0] [4, 136] ?_
 refine AW.block ?_
 refine AW.ro ?_
 refine AW.ks [0] [4, 136, 137] ?_
 refine AW.tt h (fun hb74 h => ?_) fun hb74 h => ?_
 ·refine AW.ro ?_
  refine bx h fun x75 h0 h1 h => ?_
  refine sK h (fun hb77 h => ?_) fun hb77 h => ?_
  ·refine AW.ret ?_
   cases h; refine nz ?_; exact .same _
  refine AW.ret ?_
  cases h; refine nz ?_; exact .same _
 refine AW.ro ?_
 refine AW.ks [0] [4, 136, 155] ?_
 refine AW.tt h (fun hb78 h => ?_) fun hb78 h => ?_
 ·refine AW.ro ?_
  refine bx h fun x79 h0 h1 h => ?_
  refine sK h (fun hb81 h => ?_) fun hb81 h => ?_
  ·refine cm h r08_Natural_ok fun r82 hx83 h => ?_
   refine AW.ret ?_
   cases h; refine nz ?_; exact .same _
  refine AW.ret ?_
  cases h; refine nz ?_; exact .same _
 refine AW.ro ?_
 refine AW.ks [0] [4, 172] ?_
 refine AW.tk h (fun hb84 h => ?_) fun hb84 h => ?_
 ·refine AW.ro ?_
  refine bx h fun x85 h0 h1 h => ?_
  refine cm h r08_differential_ok fun r87 hx88 h => ?_
  refine AW.ret ?_
  cases h; refine nz ?_; exact .same _
 refine AW.kr [] [] ?_
 refine AW.ret ?_
 cases h; refine nz ?_; exact .same _
/-! ### isochrone/isochroneref08.flow -/
def r08_flow_body (K : Nat) (self53 : (NodeA × Int × Bool × Bool) → Option Bool) (self92 : (NodeA × Bool × Bool) → Option Bool) (p0 : NodeA) (p1 : Bool) (p2 : Bool) : Option Bool := ((
  ((
   if (decide ((p0.kids.length : Int) < (2 : Int))) then
    some true
   else
    (r08_primed K p0).bind fun r6 =>
    if r6 then
     some true
    else
     (idx p0.kids (IntKind.wrap .i64 ((p0.kids.length : Int) - (1 : Int)))).bind fun x9 =>
     (self53 (x9, (2 : Int), p1, p2)).bind fun r11 =>
     some (!r11)) : Option Bool).bind (fun v3_0 =>
  if v3_0 then
   outM (
    some false)
  else
   some (.go ()))) : Option (Out Unit _)).bind (Out.fin fun _ =>
 ((iter (S := Int) (R := Out Unit _) K (fun again i14_0 =>
  if (decide (i14_0 < (IntKind.wrap .i64 ((p0.kids.length : Int) - (1 : Int))))) then
   ((
    (idx p0.kids i14_0).bind fun x21 =>
    ((
     ((
      if (x21.op == (56 : Int)) then
       if (decide (i14_0 < (IntKind.wrap .i64 ((p0.kids.length : Int) - (2 : Int))))) then
        some true
       else
        if (x21.op != (56 : Int)) then
         if (x21.op != (55 : Int)) then
          some true
         else
          (self53 (x21, (4 : Int), p1, p2)).bind fun r31 =>
          some (!r31)
        else
         (self53 (x21, (4 : Int), p1, p2)).bind fun r33 =>
         some (!r33)
      else
       if (x21.op != (56 : Int)) then
        if (x21.op != (55 : Int)) then
         some true
        else
         (self53 (x21, (4 : Int), p1, p2)).bind fun r37 =>
         some (!r37)
       else
        (self53 (x21, (4 : Int), p1, p2)).bind fun r39 =>
        some (!r39)) : Option Bool).bind (fun v25_0 =>
     if v25_0 then
      outM (
       outM (
        outM (
         some false)))
     else
      some (.go ()))) : Option (Out Unit _)).bind (Out.fin fun _ =>
    ((iter (S := Int) (R := Out Unit _) K (fun again i42_0 =>
     if (decide (i42_0 < i14_0)) then
      ((
       ((
        if (x21.op == (55 : Int)) then
         (idx p0.kids i42_0).bind fun x52 =>
         some (x52.name.toList == x21.name.toList)
        else
         some false) : Option Bool).bind (fun v49_0 =>
       if v49_0 then
        outM (
         outM (
          outM (
           outM (
            some false))))
       else
        some (.go ()))) : Option (Out Unit _)).bind (Out.fin fun _ =>
      again (IntKind.wrap .i64 (i42_0 + (1 : Int))))
     else
      some (.go ())) (0 : Int)) : Option (Out Unit _)).bind (Out.fin fun _ =>
    some (.go ())))) : Option (Out Unit _)).bind (Out.fin fun _ =>
   again (IntKind.wrap .i64 (i14_0 + (1 : Int))))
  else
   some (.go ())) (0 : Int)) : Option (Out Unit _)).bind (Out.fin fun _ =>
 some true))
set_option maxHeartbeats 4000000 in
theorem r08_flow_step (K : Nat) (self53 : (NodeA × Int × Bool × Bool) → Option Bool) (self92 : (NodeA × Bool × Bool) → Option Bool) (hself53 : ∀ (q : NodeA × Int × Bool × Bool) (r : Bool), self53 q = some r → Cn Tryz.prog 53 [aggV q.1.enc, .d (.val (.int .i64 q.2.1)), .d (.val (.bool q.2.2.1)), .d (.val (.bool q.2.2.2))] (.d (.val (.bool r)))) (hself92 : ∀ (q : NodeA × Bool × Bool) (r : Bool), self92 q = some r → Cn Tryz.prog 92 [aggV q.1.enc, .d (.val (.bool q.2.1)), .d (.val (.bool q.2.2))] (.d (.val (.bool r)))) (p0 : NodeA) (p1 : Bool) (p2 : Bool) (r : Bool) (h : r08_flow_body K self53 self92 p0 p1 p2 = some r) : Cn Tryz.prog 92 [aggV p0.enc, .d (.val (.bool p1)), .d (.val (.bool p2))] (.d (.val (.bool r))) := by
 refine Cn.oz Tryz.func92 Tryz.call92 Tryz.ntmps92 Tryz.results92 fun hfit => ?_
 unfold r08_flow_body at h
 refine AW.kr [] [0, 1, 2] ?_
 refine AW.kr [0] [1, 2, 3] ?_
 refine AW.ks [0] [1, 2, 3, 7] ?_
 refine AW.jo h (fun _ => [(1, vB p1), (2, vB p2), (3, .ptr 0 6 0 0), (7, vI (p0.kids.length : Int))]) (fun _ => [vE p0.enc]) (fun oJ2 h hJ2 => ?_) fun ⟨⟩ h => ?_
 ·refine AW.jn h (fun v3_0 => [(1, vB p1), (2, vB p2), (3, .ptr 0 6 0 0), (7, vI (p0.kids.length : Int)), (31, vB v3_0)]) (fun v3_0 => [vE p0.enc]) (fun oJ4 h => ?_) fun v3_0 h => ?_
  ·refine AW.rp ?_
   refine sK h (fun hb5 h => ?_) fun hb5 h => ?_
   ·exact ja [0] h
   refine cm h r08_primed_ok fun r6 hx7 h => ?_
   refine sK h (fun hb8 h => ?_) fun hb8 h => ?_
   ·exact ja [0] h
   refine bx h fun x9 h0 h1 h => ?_
   refine cm h (hself53 _ _) fun r11 hx12 h => ?_
   exact ja [0] h
  refine AW.tk h (fun hb13 h => ?_) fun hb13 h => ?_
  ·refine AW.ro ?_
   refine AW.ret ?_
   have h := up h hJ2
   cases h; refine nz ?_; exact .same _
  exact jo [0] h
 refine AW.one ?_
 refine AW.ro ?_
 refine AW.ks [0] [1, 2, 3, 7, 8] ?_
 refine AW.lp h (fun _ => []) (fun _ => []) (fun i14_0 => [(1, vB p1), (2, vB p2), (3, .ptr 0 6 0 0), (7, vI (p0.kids.length : Int)), (8, vI i14_0)]) (fun i14_0 => [vE p0.enc]) [0] (fun oJ17 hJ17 again i14_0 h => ?_) fun ⟨⟩ h => ?_
 ·refine AW.one ?_
  refine AW.ro ?_
  refine AW.ks [0] [1, 2, 3, 7, 8, 35] ?_
  refine AW.tt h (fun hb18 h => ?_) fun hb18 h => ?_
  ·refine AW.sk ?_
   refine AW.ks [0] [1, 2, 3, 7, 8] ?_
   refine AW.jo h (fun _ => [(1, vB p1), (2, vB p2), (3, .ptr 0 6 0 0), (7, vI (p0.kids.length : Int)), (8, vI i14_0)]) (fun _ => [vE p0.enc]) (fun oJ20 h hJ20 => ?_) fun ⟨⟩ h => ?_
   ·refine AW.block ?_
    refine AW.ro ?_
    refine bx h fun x21 h0 h1 h => ?_
    refine AW.ks [0, 6] [1, 2, 3, 7, 8, 9] ?_
    refine AW.jo h (fun _ => [(1, vB p1), (2, vB p2), (3, .ptr 0 6 0 0), (7, vI (p0.kids.length : Int)), (8, vI i14_0), (9, .ptr 1 6 0 0)]) (fun _ => [vE p0.enc, vE x21.enc]) (fun oJ24 h hJ24 => ?_) fun ⟨⟩ h => ?_
    ·refine AW.jn h (fun v25_0 => [(1, vB p1), (2, vB p2), (3, .ptr 0 6 0 0), (7, vI (p0.kids.length : Int)), (8, vI i14_0), (9, .ptr 1 6 0 0), (68, vB v25_0)]) (fun v25_0 => [vE p0.enc, vE x21.enc]) (fun oJ26 h => ?_) fun v25_0 h => ?_
     ·refine AW.rp ?_
      refine sK h (fun hb27 h => ?_) fun hb27 h => ?_
      ·refine sK h (fun hb28 h => ?_) fun hb28 h => ?_
       ·exact ja [0, 1] h
       refine sK h (fun hb29 h => ?_) fun hb29 h => ?_
       ·refine sK h (fun hb30 h => ?_) fun hb30 h => ?_
        ·exact ja [0, 1] h
        refine cm h (hself53 _ _) fun r31 hx32 h => ?_
        exact ja [0, 1] h
       refine cm h (hself53 _ _) fun r33 hx34 h => ?_
       exact ja [0, 1] h
      refine sK h (fun hb35 h => ?_) fun hb35 h => ?_
      ·refine sK h (fun hb36 h => ?_) fun hb36 h => ?_
       ·exact ja [0, 1] h
       refine cm h (hself53 _ _) fun r37 hx38 h => ?_
       exact ja [0, 1] h
      refine cm h (hself53 _ _) fun r39 hx40 h => ?_
      exact ja [0, 1] h
     refine AW.tk h (fun hb41 h => ?_) fun hb41 h => ?_
     ·refine AW.ro ?_
      refine AW.ret ?_
      have h := up h hJ24
      have h := up h hJ20
      have h := up h hJ17
      cases h; refine nz ?_; exact .same _
     exact jo [0, 1] h
    refine AW.ro ?_
    refine AW.ks [0, 1] [1, 2, 3, 7, 8, 9, 10] ?_
    refine AW.lp h (fun _ => [(1, vB p1), (2, vB p2), (3, .ptr 0 6 0 0), (7, vI (p0.kids.length : Int)), (8, vI i14_0)]) (fun _ => [vE p0.enc]) (fun i42_0 => [(1, vB p1), (2, vB p2), (3, .ptr 0 6 0 0), (7, vI (p0.kids.length : Int)), (8, vI i14_0), (9, .ptr 1 6 0 0), (10, vI i42_0)]) (fun i42_0 => [vE p0.enc, vE x21.enc]) [0, 1] (fun oJ45 hJ45 again i42_0 h => ?_) fun ⟨⟩ h => ?_
    ·refine AW.one ?_
     refine AW.ro ?_
     refine AW.ks [0, 1] [1, 2, 3, 7, 8, 9, 10, 71] ?_
     refine AW.tt h (fun hb46 h => ?_) fun hb46 h => ?_
     ·refine AW.sk ?_
      refine AW.ks [0, 1] [1, 2, 3, 7, 8, 9, 10] ?_
      refine AW.jo h (fun _ => [(1, vB p1), (2, vB p2), (3, .ptr 0 6 0 0), (7, vI (p0.kids.length : Int)), (8, vI i14_0), (9, .ptr 1 6 0 0), (10, vI i42_0)]) (fun _ => [vE p0.enc, vE x21.enc]) (fun oJ48 h hJ48 => ?_) fun ⟨⟩ h => ?_
      ·refine AW.block ?_
       refine AW.jn h (fun v49_0 => [(1, vB p1), (2, vB p2), (3, .ptr 0 6 0 0), (7, vI (p0.kids.length : Int)), (8, vI i14_0), (9, .ptr 1 6 0 0), (10, vI i42_0), (87, vB v49_0)]) (fun v49_0 => [vE p0.enc, vE x21.enc]) (fun oJ50 h => ?_) fun v49_0 h => ?_
       ·refine AW.rp ?_
        refine sK h (fun hb51 h => ?_) fun hb51 h => ?_
        ·refine bx h fun x52 h0 h1 h => ?_
         exact ja [0, 1] h
        exact ja [0, 1] h
       refine AW.tk h (fun hb54 h => ?_) fun hb54 h => ?_
       ·refine AW.ro ?_
        refine AW.ret ?_
        have h := up h hJ48
        have h := up h hJ45
        have h := up h hJ20
        have h := up h hJ17
        cases h; refine nz ?_; exact .same _
       exact jo [0, 1] h
      refine AW.rp ?_
      exact na [0, 1] h
     refine AW.ex ?_
     exact jo [0] h
    exact jo [0] h
   refine AW.rp ?_
   exact na [0] h
  refine AW.ex ?_
  exact jo [] h
 refine AW.kr [] [] ?_
 refine AW.ret ?_
 cases h; refine nz ?_; exact .same _
def grp_r08_well (K : Nat) : Nat → ((NodeA × Int × Bool × Bool) → Option Bool) × ((NodeA × Bool × Bool) → Option Bool)
 | 0 => (fun _ => none, fun _ => none)
 | k + 1 => (fun q => r08_well_body K (grp_r08_well K k).1 (grp_r08_well K k).2 q.1 q.2.1 q.2.2.1 q.2.2.2, fun q => r08_flow_body K (grp_r08_well K k).1 (grp_r08_well K k).2 q.1 q.2.1 q.2.2)
def r08_well (K : Nat) (p0 : NodeA) (p1 : Int) (p2 : Bool) (p3 : Bool) : Option Bool := (grp_r08_well K K).1 (p0, p1, p2, p3)
theorem key_r08_well {K : Nat} (k : Nat) : (∀ (q : NodeA × Int × Bool × Bool) (r : Bool), (grp_r08_well K k).1 q = some r → Cn Tryz.prog 53 [aggV q.1.enc, .d (.val (.int .i64 q.2.1)), .d (.val (.bool q.2.2.1)), .d (.val (.bool q.2.2.2))] (.d (.val (.bool r)))) ∧ (∀ (q : NodeA × Bool × Bool) (r : Bool), (grp_r08_well K k).2 q = some r → Cn Tryz.prog 92 [aggV q.1.enc, .d (.val (.bool q.2.1)), .d (.val (.bool q.2.2))] (.d (.val (.bool r)))) := by
 induction k with
 | zero => exact ⟨(fun q r h => nomatch (show (none : Option _) = some r from h)), (fun q r h => nomatch (show (none : Option _) = some r from h))⟩
 | succ k ih => exact ⟨fun q r h => r08_well_step K _ _ ih.1 ih.2 q.1 q.2.1 q.2.2.1 q.2.2.2 r h, fun q r h => r08_flow_step K _ _ ih.1 ih.2 q.1 q.2.1 q.2.2 r h⟩
theorem r08_well_ok {K : Nat} {p0 : NodeA} {p1 : Int} {p2 : Bool} {p3 : Bool} {r : Bool} (h : r08_well K p0 p1 p2 p3 = some r) : Cn Tryz.prog 53 [aggV p0.enc, .d (.val (.int .i64 p1)), .d (.val (.bool p2)), .d (.val (.bool p3))] (.d (.val (.bool r))) := (key_r08_well K).1 (p0, p1, p2, p3) r h
/-! ### isochrone/isochroneref08.Check -/
def r08_Check (K : Nat) (p0 : NodeA) (p1 : Int) : Option Int := ((
  if (decide (p1 < (1 : Int))) then
   some true
  else
   some (decide ((3 : Int) < p1))) : Option Bool).bind (fun v1_0 =>
 if v1_0 then
  some (1 : Int)
 else
  ((
   (r08_Size K p0).bind fun r7 =>
   if (decide ((4000 : Int) < r7)) then
    some true
   else
    (r08_Levels K p0).bind fun r10 =>
    some (decide ((60 : Int) < r10))) : Option Bool).bind (fun v5_0 =>
  if v5_0 then
   some (2 : Int)
  else
   (r08_Sort K p0.op).bind fun r13 =>
   if (r13 != p1) then
    some (80 : Int)
   else
    (r08_well K p0 p1 false false).bind fun r16 =>
    if (!r16) then
     some (3 : Int)
    else
     some (0 : Int)))
set_option maxHeartbeats 4000000 in
theorem r08_Check_ok {K : Nat} {p0 : NodeA} {p1 : Int} {r : Int} (h : r08_Check K p0 p1 = some r) : Cn Tryz.prog 26 [aggV p0.enc, .d (.val (.int .i64 p1))] (.d (.val (.int .i64 r))) := by
 refine Cn.oz Tryz.func26 Tryz.call26 Tryz.ntmps26 Tryz.results26 fun hfit => ?_
 unfold r08_Check at h
 refine AW.kr [] [0, 1] ?_
 refine AW.ks [0] [1, 2] ?_
 refine AW.one ?_
 refine AW.block ?_
 refine AW.jn h (fun v1_0 => [(1, vI p1), (2, .ptr 0 6 0 0), (5, vB v1_0)]) (fun v1_0 => [vE p0.enc]) (fun oJ2 h => ?_) fun v1_0 h => ?_
 ·refine AW.rp ?_
  refine sK h (fun hb3 h => ?_) fun hb3 h => ?_
  ·exact ja [0] h
  exact ja [0] h
 refine AW.tt h (fun hb4 h => ?_) fun hb4 h => ?_
 ·refine AW.ro ?_
  refine AW.ret ?_
  cases h; refine nz ?_; exact .same _
 refine AW.jn h (fun v5_0 => [(1, vI p1), (2, .ptr 0 6 0 0), (12, vB v5_0)]) (fun v5_0 => [vE p0.enc]) (fun oJ6 h => ?_) fun v5_0 h => ?_
 ·refine AW.rp ?_
  refine cm h r08_Size_ok fun r7 hx8 h => ?_
  refine sK h (fun hb9 h => ?_) fun hb9 h => ?_
  ·exact ja [0] h
  refine cm h r08_Levels_ok fun r10 hx11 h => ?_
  exact ja [0] h
 refine AW.tt h (fun hb12 h => ?_) fun hb12 h => ?_
 ·refine AW.ro ?_
  refine AW.ret ?_
  cases h; refine nz ?_; exact .same _
 refine AW.ro ?_
 refine cm h r08_Sort_ok fun r13 hx14 h => ?_
 refine AW.ks [0] [1, 2, 21] ?_
 refine AW.tt h (fun hb15 h => ?_) fun hb15 h => ?_
 ·refine AW.ro ?_
  refine AW.ret ?_
  cases h; refine nz ?_; exact .same _
 refine AW.ro ?_
 refine cm h r08_well_ok fun r16 hx17 h => ?_
 refine AW.ks [] [27] ?_
 refine AW.tk h (fun hb18 h => ?_) fun hb18 h => ?_
 ·refine AW.ro ?_
  refine AW.ret ?_
  cases h; refine nz ?_; exact .same _
 refine AW.kr [] [] ?_
 refine AW.ret ?_
 cases h; refine nz ?_; exact .same _
/-! ### isochrone/isochroneref08.Exponent -/
def r08_Exponent (K : Nat) (p0 : NodeA) : Option Int := (idx p0.kids (1 : Int)).bind fun x1 =>
 if ((x1.num.num.length : Int) == (0 : Int)) then
  some (0 : Int)
 else
  (idx x1.num.num (0 : Int)).bind fun x4 =>
  some (IntKind.wrap .i64 x4)
set_option maxHeartbeats 4000000 in
theorem r08_Exponent_ok {K : Nat} {p0 : NodeA} {r : Int} (h : r08_Exponent K p0 = some r) : Cn Tryz.prog 56 [aggV p0.enc] (.d (.val (.int .i64 r))) := by
 have q0 := fun k z => cv_int (k' := k) (z := z) Tryz.underlying64 Tryz.underlying3
 refine Cn.oz Tryz.func56 Tryz.call56 Tryz.ntmps56 Tryz.results56 fun hfit => ?_
 unfold r08_Exponent at h
 refine AW.kr [] [0] ?_
 refine AW.kr [0] [1] ?_
 refine bx h fun x1 h0 h1 h => ?_
 refine AW.ks [] [3] ?_
 refine AW.one ?_
 refine AW.ro ?_
 refine AW.ks [] [3, 12] ?_
 refine AW.tk h (fun hb3 h => ?_) fun hb3 h => ?_
 ·refine AW.ro ?_
  refine AW.ret ?_
  cases h; refine nz ?_; exact .same _
 refine AW.kr [] [3] ?_
 refine bx h fun x4 h0 h1 h => ?_
 refine AW.ret ?_
 cases h; refine nz ?_; exact .same _
/-! ### isochrone/isochroneref01.Int -/
def r01_Int (K : Nat) (p0 : Int) : Option (List Int) := ((iter (S := Int × (List Int)) (R := (List Int)) K (fun again (i1_0, i1_1) =>
  if (decide ((0 : Int) < i1_0)) then
   (must ((10000 : Int) != 0)).bind fun z6 =>
   (appO 8 i1_1 [i1_0.tmod (10000 : Int)]).bind fun l8 =>
   (must ((10000 : Int) != 0)).bind fun z10 =>
   again (IntKind.wrap .i64 (i1_0.tdiv (10000 : Int)), l8)
  else
   some i1_1) (p0, ([] : List Int))) : Option (List Int)).bind (fun e2_0 =>
 some e2_0)
set_option maxHeartbeats 4000000 in
theorem r01_Int_ok {K : Nat} {p0 : Int} {r : (List Int)} (h : r01_Int K p0 = some r) : Cn Tryz.prog 47 [.d (.val (.int .i64 p0))] (.d (slD i64V r)) := by
 refine Cn.ofA mixed Tryz.func47 rfl Tryz.call47 Tryz.ntmps47 Tryz.results47 (by simp) (by simp only [go_sem, reduceEqDiff, reduceAdd, reduceSub, reduceMul, reduceLeDiff, reduceLT, Nat.reduceBEq, reduceIte]) fun hfit => ?_
 unfold r01_Int at h
 refine AW.kp [] [0] ?_
 refine AW.op mixed ?_
 refine AW.kp [] [0] ?_
 refine AW.op mixed ?_
 refine AW.cu [0] [(0, .d (.val (.int .i64 p0))), (3, .msl 0 1 0 (([] : List Int).length))] [some ⟨1, (([] : List Int).map i64V).map (·.map .d)⟩] ?_
 refine AW.one ?_
 refine obindE h fun oJ4 h hJ4 => ?_
 refine AW.join (S := (List Int)) (fun e2_0 => [(3, .msl 0 1 0 (e2_0.length))]) (fun e2_0 => [some ⟨1, (e2_0.map i64V).map (·.map .d)⟩]) (fun x => x = oJ4) ?_ ?_
 ·refine AW.block ?_
  refine AW.iter (S := Int × (List Int)) (fun (i1_0, i1_1) => [(0, .d (.val (.int .i64 i1_0))), (3, .msl 0 1 0 (i1_1.length))]) (fun (i1_0, i1_1) => [some ⟨1, (i1_1.map i64V).map (·.map .d)⟩]) [0] h (by simp only [go_sem, reduceEqDiff, reduceAdd, reduceSub, reduceMul, reduceLeDiff, reduceLT, Nat.reduceBEq, reduceIte]) ?_
  rintro again ⟨i1_0, i1_1⟩ h
  try dsimp only at h
  refine AW.one ?_
  refine AW.op mixed ?_
  refine AW.cu [0] [(0, .d (.val (.int .i64 i1_0))), (3, .msl 0 1 0 (i1_1.length)), (6, .d (.val (.bool (decide ((0 : Int) < i1_0)))))] [some ⟨1, (i1_1.map i64V).map (·.map .d)⟩] ?_
  refine AW.ts (decide ((0 : Int) < i1_0)) (fun hb5 => ?_) (fun hb5 => ?_)
  ·have h := ifT hb5 h
   refine AW.sk ?_
   refine AW.cu [0] [(0, .d (.val (.int .i64 i1_0))), (3, .msl 0 1 0 (i1_1.length))] [some ⟨1, (i1_1.map i64V).map (·.map .d)⟩] ?_
   refine AW.block ?_
   refine AW.one ?_
   refine AW.reg mixed (by kernel_rfl) ?_
   apply obindE h; intro z6 hx7 h
   try simp only [go_sem, reduceEqDiff, reduceAdd, reduceSub, reduceMul, reduceLeDiff, reduceLT, Nat.reduceBEq, reduceIte, bop_rem (P := Tryz.prog) (must_ne hx7)]
   apply obindE h; intro l8 hx9 h
   refine appR (f := i64V) hx9 rfl (by simp only [go_sem, reduceEqDiff, reduceAdd, reduceSub, reduceMul, reduceLeDiff, reduceLT, Nat.reduceBEq, reduceIte, bop_rem (P := Tryz.prog) (must_ne hx7)]) (by simp only [go_sem, reduceEqDiff, reduceAdd, reduceSub, reduceMul, reduceLeDiff, reduceLT, Nat.reduceBEq, reduceIte, bop_rem (P := Tryz.prog) (must_ne hx7)]) (by simp only [go_sem, reduceEqDiff, reduceAdd, reduceSub, reduceMul, reduceLeDiff, reduceLT, Nat.reduceBEq, reduceIte, bop_rem (P := Tryz.prog) (must_ne hx7)]) ?_
   try simp only [go_sem, reduceEqDiff, reduceAdd, reduceSub, reduceMul, reduceLeDiff, reduceLT, Nat.reduceBEq, reduceIte, bop_rem (P := Tryz.prog) (must_ne hx7)]
   refine AW.cut [5] [(0, .d (.val (.int .i64 i1_0))), (3, .msl 0 1 0 (l8.length))] [some ⟨1, (l8.map i64V).map (·.map .d)⟩] (by simp only [go_sem, reduceEqDiff, reduceAdd, reduceSub, reduceMul, reduceLeDiff, reduceLT, Nat.reduceBEq, reduceIte, bop_rem (P := Tryz.prog) (must_ne hx7)]) ?_
   refine AW.reg mixed (by kernel_rfl) ?_
   apply obindE h; intro z10 hx11 h
   try simp only [go_sem, reduceEqDiff, reduceAdd, reduceSub, reduceMul, reduceLeDiff, reduceLT, Nat.reduceBEq, reduceIte, bop_quo (P := Tryz.prog) (must_ne hx11)]
   refine NextQ.mk (IntKind.wrap .i64 (i1_0.tdiv (10000 : Int)), l8) [0] h (by simp only [go_sem, reduceEqDiff, reduceAdd, reduceSub, reduceMul, reduceLeDiff, reduceLT, Nat.reduceBEq, reduceIte, bop_quo (P := Tryz.prog) (must_ne hx11)])
  have h := ifF hb5 h
  refine AW.ex ?_
  exact JoinQ.ar i1_1 [0] (Option.some.inj h)
 rintro e2_0 rfl
 have h := hJ4
 try dsimp only [Out.fin] at h
 refine nz ?_
 refine AW.cu [0] [(3, .msl 0 1 0 (e2_0.length))] [some ⟨1, (e2_0.map i64V).map (·.map .d)⟩] ?_
 refine AW.op mixed ?_
 refine AW.ret ?_
 obtain rfl := Option.some.inj h
 refine nz ?_
 exact sealArr (by simp only [go_sem, reduceEqDiff, reduceAdd, reduceSub, reduceMul, reduceLeDiff, reduceLT, Nat.reduceBEq, reduceIte])
structure Isochroneref02_RatA where
 neg : Bool
 n : List Int
 d : List Int
def Isochroneref02_RatA.enc (x : Isochroneref02_RatA) : List D := [.val (.bool x.neg), slD i64V x.n, slD i64V x.d]
theorem Isochroneref02_RatA.enc_eta (x : Isochroneref02_RatA) : x.enc = [.val (.bool x.neg), slD i64V x.n, slD i64V x.d] := rfl
attribute [go_sem] Isochroneref02_RatA.enc_eta
/-! ### isochrone/isochroneref02.Int -/
def r02_Int (K : Nat) (p0 : Int) : Option Isochroneref02_RatA := if (decide (p0 < (0 : Int))) then
  (r01_Int K (IntKind.wrap .i64 (0 - p0))).bind fun r2 =>
  some (Isochroneref02_RatA.mk true r2 [(1 : Int)])
 else
  (r01_Int K p0).bind fun r4 =>
  some (Isochroneref02_RatA.mk false r4 [(1 : Int)])
set_option maxHeartbeats 4000000 in
theorem r02_Int_ok {K : Nat} {p0 : Int} {r : Isochroneref02_RatA} (h : r02_Int K p0 = some r) : Cn Tryz.prog 18 [.d (.val (.int .i64 p0))] (aggV r.enc) := by
 refine Cn.oz Tryz.func18 Tryz.call18 Tryz.ntmps18 Tryz.results18 fun hfit => ?_
 unfold r02_Int at h
 refine AW.kr [] [0] ?_
 refine AW.ks [0] [0, 2] ?_
 refine AW.one ?_
 refine AW.ro ?_
 refine AW.ks [0] [0, 2, 4] ?_
 refine AW.tk h (fun hb1 h => ?_) fun hb1 h => ?_
 ·refine AW.ro ?_
  refine cm h r01_Int_ok fun r2 hx3 h => ?_
  refine AW.ret ?_
  cases h; refine nz ?_; exact .same _
 refine AW.kr [0] [0, 2] ?_
 refine cm h r01_Int_ok fun r4 hx5 h => ?_
 refine AW.ret ?_
 cases h; refine nz ?_; exact .same _
/-! ### isochrone/isochroneref01.trim -/
def r01_trim (K : Nat) (p0 : List Int) : Option (List Int) := ((iter (S := Int) (R := Int) K (fun again i1_0 =>
  ((
   ((
    if (decide ((0 : Int) < i1_0)) then
     (idx p0 (IntKind.wrap .i64 (i1_0 - (1 : Int)))).bind fun x10 =>
     some (x10 == (0 : Int))
    else
     some false) : Option Bool).bind (fun v7_0 =>
   if v7_0 then
    some (.go ())
   else
    outM (
     some i1_0))) : Option (Out Unit _)).bind (Out.fin fun _ =>
  again (IntKind.wrap .i64 (i1_0 - (1 : Int))))) (p0.length : Int)) : Option Int).bind (fun e2_0 =>
 (cutL p0 none (some e2_0)).bind fun s13 =>
 some s13)
set_option maxHeartbeats 4000000 in
theorem r01_trim_ok {K : Nat} {p0 : List Int} {r : (List Int)} (h : r01_trim K p0 = some r) : Cn Tryz.prog 147 [.d (slD i64V p0)] (.d (slD i64V r)) := by
 refine Cn.oz Tryz.func147 Tryz.call147 Tryz.ntmps147 Tryz.results147 fun hfit => ?_
 unfold r01_trim at h
 refine AW.kr [] [0] ?_
 refine AW.kr [] [0] ?_
 refine AW.ks [] [0, 3] ?_
 refine AW.ln h (fun e2_0 => [(0, vL i64V p0), (3, vI e2_0)]) (fun e2_0 => []) (fun i1_0 => [(0, vL i64V p0), (3, vI i1_0)]) (fun i1_0 => []) [] (fun oJ4 again i1_0 h => ?_) fun e2_0 h => ?_
 ·refine AW.jo h (fun _ => [(0, vL i64V p0), (3, vI i1_0)]) (fun _ => []) (fun oJ6 h hJ6 => ?_) fun ⟨⟩ h => ?_
  ·refine AW.jn h (fun v7_0 => [(0, vL i64V p0), (3, vI i1_0), (15, vB v7_0)]) (fun v7_0 => []) (fun oJ8 h => ?_) fun v7_0 h => ?_
   ·refine AW.rp ?_
    refine sK h (fun hb9 h => ?_) fun hb9 h => ?_
    ·refine bx h fun x10 h0 h1 h => ?_
     exact ja [] h
    exact ja [] h
   refine AW.tt h (fun hb12 h => ?_) fun hb12 h => ?_
   ·refine AW.sk ?_
    exact jo [] h
   refine AW.ex ?_
   have h := up h hJ6
   exact ja [] h
  refine AW.block ?_
  refine AW.rp ?_
  exact na [] h
 refine AW.kr [] [0, 3] ?_
 refine bb h fun s13 hx14 h => ?_
 refine AW.ret ?_
 cases h; refine nz ?_; exact .same _
/-! ### isochrone/isochroneref01.Split -/
def r01_Split (K : Nat) (p0 : List Int) (p1 : Int) : Option ((List Int) × Int) := (makO 8 (p0.length : Int) (0 : Int)).bind fun l1 =>
 ((iter (S := Int × Int × (List Int)) (R := (Int × (List Int))) K (fun again (i3_0, i3_1, i3_2) =>
  if (decide ((0 : Int) ≤ i3_1)) then
   (idx p0 i3_1).bind fun x8 =>
   (must (p1 != 0)).bind fun z10 =>
   (idx i3_2 i3_1).bind fun x12 =>
   (must (p1 != 0)).bind fun z14 =>
   again ((IntKind.wrap .i64 ((IntKind.wrap .i64 (i3_0 * (10000 : Int))) + x8)).tmod p1, IntKind.wrap .i64 (i3_1 - (1 : Int)), (i3_2.set (i3_1.toNat) (IntKind.wrap .i64 ((IntKind.wrap .i64 ((IntKind.wrap .i64 (i3_0 * (10000 : Int))) + x8)).tdiv p1))))
  else
   some (i3_0, i3_2)) ((0 : Int), IntKind.wrap .i64 ((p0.length : Int) - (1 : Int)), l1)) : Option (Int × (List Int))).bind (fun (e4_0, e4_1) =>
 (r01_trim K e4_1).bind fun r16 =>
 some (r16, e4_0))
set_option maxHeartbeats 4000000 in
theorem r01_Split_ok {K : Nat} {p0 : List Int} {p1 : Int} {r : (List Int) × Int} (h : r01_Split K p0 p1 = some r) : Cn Tryz.prog 122 [.d (slD i64V p0), .d (.val (.int .i64 p1))] (.tup [.d (slD i64V r.1), .d (.val (.int .i64 r.2))]) := by
 refine Cn.ofA mixed Tryz.func122 rfl Tryz.call122 Tryz.ntmps122 Tryz.results122 (by simp) (by simp only [go_sem, reduceEqDiff, reduceAdd, reduceSub, reduceMul, reduceLeDiff, reduceLT, Nat.reduceBEq, reduceIte]) fun hfit => ?_
 unfold r01_Split at h
 refine AW.kp [] [0, 1] ?_
 refine AW.op mixed ?_
 refine AW.kp [] [0, 1] ?_
 refine AW.op mixed ?_
 apply obindE h; intro l1 hx2 h
 refine makG (f := i64V) hx2 (nz ?_) ?_
 ·exact ⟨.same _, trivial⟩
 try simp only [go_sem, reduceEqDiff, reduceAdd, reduceSub, reduceMul, reduceLeDiff, reduceLT, Nat.reduceBEq, reduceIte]
 refine AW.cu [2] [(0, .d (slD i64V p0)), (1, .d (.val (.int .i64 p1))), (6, .msl 0 1 0 (l1.length))] [some ⟨1, (l1.map i64V).map (·.map .d)⟩] ?_
 refine AW.op mixed ?_
 refine AW.cu [0] [(0, .d (slD i64V p0)), (1, .d (.val (.int .i64 p1))), (6, .msl 0 1 0 (l1.length)), (7, .d (.val (.int .i64 (0 : Int))))] [some ⟨1, (l1.map i64V).map (·.map .d)⟩] ?_
 refine AW.one ?_
 refine AW.op mixed ?_
 refine AW.cu [0] [(0, .d (slD i64V p0)), (1, .d (.val (.int .i64 p1))), (6, .msl 0 1 0 (l1.length)), (7, .d (.val (.int .i64 (0 : Int)))), (8, .d (.val (.int .i64 (IntKind.wrap .i64 ((p0.length : Int) - (1 : Int))))))] [some ⟨1, (l1.map i64V).map (·.map .d)⟩] ?_
 refine obindE h fun oJ6 h hJ6 => ?_
 refine AW.join (S := Int × (List Int)) (fun (e4_0, e4_1) => [(6, .msl 0 1 0 (e4_1.length)), (7, .d (.val (.int .i64 e4_0)))]) (fun (e4_0, e4_1) => [some ⟨1, (e4_1.map i64V).map (·.map .d)⟩]) (fun x => x = oJ6) ?_ ?_
 ·refine AW.block ?_
  refine AW.iter (S := Int × Int × (List Int)) (fun (i3_0, i3_1, i3_2) => [(0, .d (slD i64V p0)), (1, .d (.val (.int .i64 p1))), (6, .msl 0 1 0 (i3_2.length)), (7, .d (.val (.int .i64 i3_0))), (8, .d (.val (.int .i64 i3_1)))]) (fun (i3_0, i3_1, i3_2) => [some ⟨1, (i3_2.map i64V).map (·.map .d)⟩]) [0] h (by simp only [go_sem, reduceEqDiff, reduceAdd, reduceSub, reduceMul, reduceLeDiff, reduceLT, Nat.reduceBEq, reduceIte]) ?_
  rintro again ⟨i3_0, i3_1, i3_2⟩ h
  try dsimp only at h
  refine AW.one ?_
  refine AW.op mixed ?_
  refine AW.cu [0] [(0, .d (slD i64V p0)), (1, .d (.val (.int .i64 p1))), (6, .msl 0 1 0 (i3_2.length)), (7, .d (.val (.int .i64 i3_0))), (8, .d (.val (.int .i64 i3_1))), (16, .d (.val (.bool (decide ((0 : Int) ≤ i3_1)))))] [some ⟨1, (i3_2.map i64V).map (·.map .d)⟩] ?_
  refine AW.ts (decide ((0 : Int) ≤ i3_1)) (fun hb7 => ?_) (fun hb7 => ?_)
  ·have h := ifT hb7 h
   refine AW.sk ?_
   refine AW.cu [0] [(0, .d (slD i64V p0)), (1, .d (.val (.int .i64 p1))), (6, .msl 0 1 0 (i3_2.length)), (7, .d (.val (.int .i64 i3_0))), (8, .d (.val (.int .i64 i3_1)))] [some ⟨1, (i3_2.map i64V).map (·.map .d)⟩] ?_
   refine AW.one ?_
   refine AW.block ?_
   refine AW.one ?_
   refine AW.reg mixed (by kernel_rfl) ?_
   apply obindE h; intro x8 hx9 h
   try simp only [go_sem, reduceEqDiff, reduceAdd, reduceSub, reduceMul, reduceLeDiff, reduceLT, Nat.reduceBEq, reduceIte, (idx_some hx9).1, (idx_some hx9).2]
   refine AW.cut [0] [(0, .d (slD i64V p0)), (1, .d (.val (.int .i64 p1))), (6, .msl 0 1 0 (i3_2.length)), (7, .d (.val (.int .i64 (IntKind.wrap .i64 ((IntKind.wrap .i64 (i3_0 * (10000 : Int))) + x8))))), (8, .d (.val (.int .i64 i3_1)))] [some ⟨1, (i3_2.map i64V).map (·.map .d)⟩] (by simp only [go_sem, reduceEqDiff, reduceAdd, reduceSub, reduceMul, reduceLeDiff, reduceLT, Nat.reduceBEq, reduceIte, (idx_some hx9).1, (idx_some hx9).2]) ?_
   refine AW.one ?_
   refine AW.reg mixed (by kernel_rfl) ?_
   apply obindE h; intro z10 hx11 h
   try simp only [go_sem, reduceEqDiff, reduceAdd, reduceSub, reduceMul, reduceLeDiff, reduceLT, Nat.reduceBEq, reduceIte, bop_quo (P := Tryz.prog) (must_ne hx11)]
   apply obindE h; intro x12 hx13 h
   try simp only [go_sem, reduceEqDiff, reduceAdd, reduceSub, reduceMul, reduceLeDiff, reduceLT, Nat.reduceBEq, reduceIte, bop_quo (P := Tryz.prog) (must_ne hx11), (idx_some hx13).1, idx_lt hx13, (idx_some hx13).2, List.length_set, (rows_set (l := i3_2) (f := i64V) (i := i3_1.toNat) (v' := IntKind.wrap .i64 ((IntKind.wrap .i64 ((IntKind.wrap .i64 (i3_0 * (10000 : Int))) + x8)).tdiv p1)) (row := [.d (.val (.int .i64 (IntKind.wrap .i64 ((IntKind.wrap .i64 ((IntKind.wrap .i64 (i3_0 * (10000 : Int))) + x8)).tdiv p1))))]) (by simp only [go_sem, reduceEqDiff, reduceAdd, reduceSub, reduceMul, reduceLeDiff, reduceLT, Nat.reduceBEq, reduceIte]))]
   refine AW.cut [0] [(0, .d (slD i64V p0)), (1, .d (.val (.int .i64 p1))), (6, .msl 0 1 0 ((i3_2.set (i3_1.toNat) (IntKind.wrap .i64 ((IntKind.wrap .i64 ((IntKind.wrap .i64 (i3_0 * (10000 : Int))) + x8)).tdiv p1))).length)), (7, .d (.val (.int .i64 (IntKind.wrap .i64 ((IntKind.wrap .i64 (i3_0 * (10000 : Int))) + x8))))), (8, .d (.val (.int .i64 i3_1)))] [some ⟨1, ((i3_2.set (i3_1.toNat) (IntKind.wrap .i64 ((IntKind.wrap .i64 ((IntKind.wrap .i64 (i3_0 * (10000 : Int))) + x8)).tdiv p1))).map i64V).map (·.map .d)⟩] (by simp only [go_sem, reduceEqDiff, reduceAdd, reduceSub, reduceMul, reduceLeDiff, reduceLT, Nat.reduceBEq, reduceIte, bop_quo (P := Tryz.prog) (must_ne hx11), (idx_some hx13).1, idx_lt hx13, (idx_some hx13).2, List.length_set, (rows_set (l := i3_2) (f := i64V) (i := i3_1.toNat) (v' := IntKind.wrap .i64 ((IntKind.wrap .i64 ((IntKind.wrap .i64 (i3_0 * (10000 : Int))) + x8)).tdiv p1)) (row := [.d (.val (.int .i64 (IntKind.wrap .i64 ((IntKind.wrap .i64 ((IntKind.wrap .i64 (i3_0 * (10000 : Int))) + x8)).tdiv p1))))]) (by simp only [go_sem, reduceEqDiff, reduceAdd, reduceSub, reduceMul, reduceLeDiff, reduceLT, Nat.reduceBEq, reduceIte]))]) ?_
   refine AW.reg mixed (by kernel_rfl) ?_
   apply obindE h; intro z14 hx15 h
   try simp only [go_sem, reduceEqDiff, reduceAdd, reduceSub, reduceMul, reduceLeDiff, reduceLT, Nat.reduceBEq, reduceIte, bop_rem (P := Tryz.prog) (must_ne hx15)]
   refine AW.cut [0] [(0, .d (slD i64V p0)), (1, .d (.val (.int .i64 p1))), (6, .msl 0 1 0 ((i3_2.set (i3_1.toNat) (IntKind.wrap .i64 ((IntKind.wrap .i64 ((IntKind.wrap .i64 (i3_0 * (10000 : Int))) + x8)).tdiv p1))).length)), (7, .d (.val (.int .i64 ((IntKind.wrap .i64 ((IntKind.wrap .i64 (i3_0 * (10000 : Int))) + x8)).tmod p1)))), (8, .d (.val (.int .i64 i3_1)))] [some ⟨1, ((i3_2.set (i3_1.toNat) (IntKind.wrap .i64 ((IntKind.wrap .i64 ((IntKind.wrap .i64 (i3_0 * (10000 : Int))) + x8)).tdiv p1))).map i64V).map (·.map .d)⟩] (by simp only [go_sem, reduceEqDiff, reduceAdd, reduceSub, reduceMul, reduceLeDiff, reduceLT, Nat.reduceBEq, reduceIte, bop_rem (P := Tryz.prog) (must_ne hx15)]) ?_
   refine AW.rg mixed ?_
   exact NextQ.ar ((IntKind.wrap .i64 ((IntKind.wrap .i64 (i3_0 * (10000 : Int))) + x8)).tmod p1, IntKind.wrap .i64 (i3_1 - (1 : Int)), (i3_2.set (i3_1.toNat) (IntKind.wrap .i64 ((IntKind.wrap .i64 ((IntKind.wrap .i64 (i3_0 * (10000 : Int))) + x8)).tdiv p1)))) [0] h
  have h := ifF hb7 h
  refine AW.ex ?_
  exact JoinQ.ar (i3_0, i3_2) [0] (Option.some.inj h)
 rintro ⟨e4_0, e4_1⟩ rfl
 have h := hJ6
 try dsimp only [Out.fin] at h
 refine nz ?_
 refine AW.cu [0] [(6, .msl 0 1 0 (e4_1.length)), (7, .d (.val (.int .i64 e4_0)))] [some ⟨1, (e4_1.map i64V).map (·.map .d)⟩] ?_
 refine AW.op mixed ?_
 apply obindE h; intro r16 hx17 h
 have hc := nx (r01_trim_ok (h := hx17))
 refine callK_seal [0] hc ⟨sealArr (by simp only [go_sem, reduceEqDiff, reduceAdd, reduceSub, reduceMul, reduceLeDiff, reduceLT, Nat.reduceBEq, reduceIte]), trivial⟩ (by simp only [go_sem, reduceEqDiff, reduceAdd, reduceSub, reduceMul, reduceLeDiff, reduceLT, Nat.reduceBEq, reduceIte]) (by simp only [go_sem, reduceEqDiff, reduceAdd, reduceSub, reduceMul, reduceLeDiff, reduceLT, Nat.reduceBEq, reduceIte]) ?_
 try simp only [go_sem, reduceEqDiff, reduceAdd, reduceSub, reduceMul, reduceLeDiff, reduceLT, Nat.reduceBEq, reduceIte]
 refine AW.ret ?_
 obtain rfl := Option.some.inj h
 refine nz ?_
 exact .same _
/-! ### isochrone/isochroneref01.Words -/
def r01_Words (K : Nat) (p0 : List Int) : Option (List Int) := ((iter (S := (List Int) × (List Int)) (R := (List Int)) K (fun again (i1_0, i1_1) =>
  if (decide ((0 : Int) < (i1_0.length : Int))) then
   (r01_Split K i1_0 (65536 : Int)).bind fun r6 =>
   (appO 8 i1_1 [r6.2]).bind fun l8 =>
   again (r6.1, l8)
  else
   some i1_1) (p0, [])) : Option (List Int)).bind (fun e2_0 =>
 ((iter (S := Int × (List Int)) (R := (List Int)) K (fun again (i10_0, i10_1) =>
  if (decide (i10_0 < (e2_0.length : Int))) then
   ((
    (idx e2_0 i10_0).bind fun x17 =>
    ((
     if (decide ((IntKind.wrap .i64 (i10_0 + (1 : Int))) < (e2_0.length : Int))) then
      (idx e2_0 (IntKind.wrap .i64 (i10_0 + (1 : Int)))).bind fun x22 =>
      (must (decide ((0 : Int) ≤ (16 : Int)))).bind fun _ =>
      some (IntKind.wrap .u32 ((IntKind.wrap .u32 x17) + (bShl .u32 (IntKind.wrap .u32 x22) (16 : Int))))
     else
      some (IntKind.wrap .u32 x17)) : Option Int).bind (fun v19_0 =>
    (appO 4 i10_1 [v19_0]).bind fun l25 =>
    some l25)) : Option (List Int)).bind (fun v15_0 =>
   again (IntKind.wrap .i64 (i10_0 + (2 : Int)), v15_0))
  else
   some i10_1) ((0 : Int), [])) : Option (List Int)).bind (fun e11_0 =>
 some e11_0))
set_option maxHeartbeats 4000000 in
theorem r01_Words_ok {K : Nat} {p0 : List Int} {r : (List Int)} (h : r01_Words K p0 = some r) : Cn Tryz.prog 84 [.d (slD i64V p0)] (.d (slD u32V r)) := by
 have q0 := fun k z => cv_int (k' := k) (z := z) Tryz.underlying3 Tryz.underlying64
 refine Cn.oz Tryz.func84 Tryz.call84 Tryz.ntmps84 Tryz.results84 fun hfit => ?_
 unfold r01_Words at h
 refine AW.kr [] [0] ?_
 refine AW.kr [] [0] ?_
 refine AW.ks [] [0, 3] ?_
 refine AW.ln h (fun e2_0 => [(3, accV 0 1 ((e2_0.map i64V).map (·.map .d)))]) (fun e2_0 => [accO 1 ((e2_0.map i64V).map (·.map .d))]) (fun (i1_0, i1_1) => [(0, vL i64V i1_0), (3, accV 0 1 ((i1_1.map i64V).map (·.map .d)))]) (fun (i1_0, i1_1) => [accO 1 ((i1_1.map i64V).map (·.map .d))]) [1000] (fun oJ4 again ⟨i1_0, i1_1⟩ h => ?_) fun e2_0 h => ?_
 ·try dsimp only at h
  refine AW.one ?_
  refine AW.ro ?_
  refine AW.ks [0] [0, 3, 11] ?_
  refine AW.tt h (fun hb5 h => ?_) fun hb5 h => ?_
  ·refine AW.sk ?_
   refine AW.ks [0] [0, 3] ?_
   refine AW.block ?_
   refine AW.ro ?_
   refine cm h r01_Split_ok fun r6 hx7 h => ?_
   refine AW.kr [0] [3, 4, 5] ?_
   refine ag (f := i64V) h fun l8 hx9 h => ?_
   refine AW.ks [4] [3, 4] ?_
   refine AW.rp ?_
   exact na [0] h
  refine AW.ex ?_
  exact ja [0] h
 refine AW.kr [0] [3] ?_
 refine AW.ks [0] [3, 6] ?_
 refine AW.one ?_
 refine AW.ro ?_
 refine AW.ks [0] [3, 6, 7] ?_
 refine AW.lm h (fun e11_0 => [(6, accV 0 1 ((e11_0.map u32V).map (·.map .d)))]) (fun e11_0 => [accO 1 ((e11_0.map u32V).map (·.map .d))]) (fun (i10_0, i10_1) => [(3, accV 0 1 ((e2_0.map i64V).map (·.map .d))), (6, accV 1 1 ((i10_1.map u32V).map (·.map .d))), (7, vI i10_0)]) (fun (i10_0, i10_1) => [accO 1 ((e2_0.map i64V).map (·.map .d)), accO 1 ((i10_1.map u32V).map (·.map .d))]) [0, 1001] (fun oJ13 again ⟨i10_0, i10_1⟩ h => ?_) fun e11_0 h => ?_
 ·try dsimp only at h
  refine AW.one ?_
  refine AW.ro ?_
  refine AW.ks [0, 1] [3, 6, 7, 25] ?_
  refine AW.tt h (fun hb14 h => ?_) fun hb14 h => ?_
  ·refine AW.sk ?_
   refine AW.ks [0, 1] [3, 6, 7] ?_
   refine AW.jn h (fun v15_0 => [(3, accV 0 1 ((e2_0.map i64V).map (·.map .d))), (6, accV 1 1 ((v15_0.map u32V).map (·.map .d))), (7, vI i10_0)]) (fun v15_0 => [accO 1 ((e2_0.map i64V).map (·.map .d)), accO 1 ((v15_0.map u32V).map (·.map .d))]) (fun oJ16 h => ?_) fun v15_0 h => ?_
   ·refine AW.block ?_
    refine AW.ro ?_
    refine bi h fun x17 h0 h1 h2 h3 h4 h => ?_
    refine AW.ks [0, 1] [3, 6, 7, 8] ?_
    refine AW.jn h (fun v19_0 => [(3, accV 0 1 ((e2_0.map i64V).map (·.map .d))), (6, accV 1 1 ((i10_1.map u32V).map (·.map .d))), (7, vI i10_0), (8, .d (.val (.int .u32 v19_0)))]) (fun v19_0 => [accO 1 ((e2_0.map i64V).map (·.map .d)), accO 1 ((i10_1.map u32V).map (·.map .d))]) (fun oJ20 h => ?_) fun v19_0 h => ?_
    ·refine AW.ro ?_
     refine AW.ks [0, 1] [3, 6, 7, 8, 37] ?_
     refine AW.tk h (fun hb21 h => ?_) fun hb21 h => ?_
     ·refine AW.rp ?_
      refine bi h fun x22 h0 h1 h2 h3 h4 h => ?_
      apply bE h; intro _ hx24 h; have hx24 := ml hx24; refine ns ?_
      exact ja [0, 1] h
     exact ja [0, 1] h
    refine AW.rp ?_
    refine ag (f := u32V) h fun l25 hx26 h => ?_
    exact ja [0, 5] h
   refine AW.rp ?_
   exact na [0, 1] h
  refine AW.ex ?_
  exact ja [1] h
 refine AW.kr [0] [6] ?_
 refine AW.ret ?_
 cases h; refine nz ?_; exact sealAcc (by simp only [go_sem, reduceEqDiff, reduceAdd, reduceSub, reduceMul, reduceLeDiff, reduceLT, Nat.reduceBEq, reduceIte])
/-! ### isochrone/isochroneref02.To -/
def r02_To (K : Nat) (p0 : Isochroneref02_RatA) : Option RatA := (r01_Words K p0.n).bind fun r1 =>
 (r01_Words K p0.d).bind fun r3 =>
 some (RatA.mk p0.neg r1 r3)
set_option maxHeartbeats 4000000 in
theorem r02_To_ok {K : Nat} {p0 : Isochroneref02_RatA} {r : RatA} (h : r02_To K p0 = some r) : Cn Tryz.prog 46 [aggV p0.enc] (aggV r.enc) := by
 refine Cn.oz Tryz.func46 Tryz.call46 Tryz.ntmps46 Tryz.results46 fun hfit => ?_
 unfold r02_To at h
 refine AW.kr [] [0] ?_
 refine AW.kr [0, 1] [1, 2] ?_
 refine pm h r01_Words_ok fun r1 hx2 h => ?_
 refine pm h r01_Words_ok fun r3 hx4 h => ?_
 refine AW.ret ?_
 cases h; refine nz ?_; exact .same _
/-! ### isochrone/isochroneref08.Num -/
def r08_Num (K : Nat) (p0 : Int) : Option NodeA := (r02_Int K p0).bind fun r1 =>
 (r02_To K r1).bind fun r3 =>
 some (NodeA.mk (1 : Int) (⟨#[]⟩ : ByteArray) r3 [])
set_option maxHeartbeats 4000000 in
theorem r08_Num_ok {K : Nat} {p0 : Int} {r : NodeA} (h : r08_Num K p0 = some r) : Cn Tryz.prog 54 [.d (.val (.int .i64 p0))] (aggV r.enc) := by
 refine Cn.oz Tryz.func54 Tryz.call54 Tryz.ntmps54 Tryz.results54 fun hfit => ?_
 unfold r08_Num at h
 refine AW.kr [] [0] ?_
 refine AW.kr [0] [0, 2] ?_
 refine cm h r02_Int_ok fun r1 hx2 h => ?_
 refine cm h r02_To_ok fun r3 hx4 h => ?_
 refine AW.ret ?_
 cases h; refine nz ?_; exact .aggL ⟨.same _, .same _, .same _, .same _, .same _, .nil, trivial⟩
/-! ### isochrone/isochroneref08.One -/
def r08_One (K : Nat) (p0 : Int) (p1 : NodeA) : Option NodeA := some (NodeA.mk p0 (⟨#[]⟩ : ByteArray) (RatA.mk false [] []) [p1])
set_option maxHeartbeats 4000000 in
theorem r08_One_ok {K : Nat} {p0 : Int} {p1 : NodeA} {r : NodeA} (h : r08_One K p0 p1 = some r) : Cn Tryz.prog 55 [.d (.val (.int .i64 p0)), aggV p1.enc] (aggV r.enc) := by
 refine Cn.oz Tryz.func55 Tryz.call55 Tryz.ntmps55 Tryz.results55 fun hfit => ?_
 unfold r08_One at h
 refine AW.kr [] [0, 1] ?_
 refine AW.kr [0, 1] [0, 3, 4] ?_
 refine AW.ret ?_
 cases h; refine nz ?_; exact .aggL ⟨.same _, .same _, .same _, .nil, .nil, .d (.dn (.rows ⟨(nilL_eq (by simp only [go_sem, reduceEqDiff, reduceAdd, reduceSub, reduceMul, reduceLeDiff, reduceLT, Nat.reduceBEq, reduceIte])), trivial⟩)), trivial⟩
/-! ### isochrone/isochroneref08.Two -/
def r08_Two (K : Nat) (p0 : Int) (p1 : NodeA) (p2 : NodeA) : Option NodeA := some (NodeA.mk p0 (⟨#[]⟩ : ByteArray) (RatA.mk false [] []) [p1, p2])
set_option maxHeartbeats 4000000 in
theorem r08_Two_ok {K : Nat} {p0 : Int} {p1 : NodeA} {p2 : NodeA} {r : NodeA} (h : r08_Two K p0 p1 p2 = some r) : Cn Tryz.prog 15 [.d (.val (.int .i64 p0)), aggV p1.enc, aggV p2.enc] (aggV r.enc) := by
 refine Cn.oz Tryz.func15 Tryz.call15 Tryz.ntmps15 Tryz.results15 fun hfit => ?_
 unfold r08_Two at h
 refine AW.kr [] [0, 1, 2] ?_
 refine AW.kr [0, 1, 2] [0, 4, 5, 6] ?_
 refine AW.ret ?_
 cases h; refine nz ?_; exact .aggL ⟨.same _, .same _, .same _, .nil, .nil, .d (.dn (.rows ⟨(nilL_eq (by simp only [go_sem, reduceEqDiff, reduceAdd, reduceSub, reduceMul, reduceLeDiff, reduceLT, Nat.reduceBEq, reduceIte])), (nilL_eq (by simp only [go_sem, reduceEqDiff, reduceAdd, reduceSub, reduceMul, reduceLeDiff, reduceLT, Nat.reduceBEq, reduceIte])), trivial⟩)), trivial⟩
end Go.Proofs.YtphmckfokdkecaaGreat
