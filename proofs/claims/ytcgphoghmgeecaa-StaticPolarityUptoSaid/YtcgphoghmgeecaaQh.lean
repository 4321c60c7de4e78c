/- Part of the proof of a law: contracts of the functions that the law reaches, or plain laws of them, out of the abstract layer (the texts YtcgphoghmgeecaaIso..). No condition. -/
import Derived.Test.YtcgphoghmgeecaaQg
namespace Go.Proofs.Ytcgphoghmgeecaa
open Go Go.Iso Go.Proofs
set_option linter.unusedSimpArgs false
set_option linter.unusedVariables false
set_option maxRecDepth 100000
set_option maxHeartbeats 1000000

abbrev strX : ByteArray := ⟨#[120]⟩
abbrev strY : ByteArray := ⟨#[121]⟩
abbrev nodeY : NodeA := .mk 2 strY ⟨false, [], []⟩ []
abbrev nodeX : NodeA := .mk 50 strX ⟨false, [], []⟩ [nodeY]
theorem wrapC {z : Int} (h1 : -4611686018427387904 ≤ z) (h2 : z ≤ 4611686018427387904) : IntKind.wrap .i64 z = z := wrap_i64 (by omega) (by omega)

theorem name_one (c : UInt8) (h : letterB c = true) : NameS ⟨#[c]⟩ := by
  have get : ∀ (k : Nat) (d : UInt8), (⟨#[c]⟩ : ByteArray)[k]? = some d → d = c := by
    intro k d hk
    obtain ⟨hk1, hk2⟩ := getElem?_eq_some_iff.1 hk
    have : k = 0 := by have : k < 1 := hk1; omega
    subst this
    exact hk2.symm
  have ne : ∀ b : ByteArray, b.size ≠ 1 → (⟨#[c]⟩ : ByteArray).toList ≠ b.toList := fun b hb e => by
    have : (⟨#[c]⟩ : ByteArray) = b := bytes_eq.1 (by rw [e]; simp)
    exact hb (by rw [← this]; rfl)
  exact ⟨by simp [ByteArray.size], by simp [ByteArray.size], fun d hd => by rw [get 0 d hd]; exact h, fun k d hd => .inl (by rw [get k d hd]; exact h), ne _ (by decide), ne _ (by decide), ne _ (by decide), ne _ (by decide)⟩
theorem name_x : NameS strX := name_one 120 rfl
theorem name_y : NameS strY := name_one 121 rfl

theorem fn44x : Cn Try.prog 44 [intV 50] (intV 3) := by
  refine Cn.of mixed Try.func44 rfl Try.call44 Try.ntmps44 Try.results44 (by simp) (by kernel_rfl) trivial fun _ => ?_
  simp only [go_sem, Nat.reduceEqDiff, Nat.reduceAdd, Nat.reduceSub, Nat.reduceMul, Nat.reduceLeDiff, Nat.reduceLT, Nat.reduceBEq, reduceIte, Int.reduceBEq, Int.reduceBNe, Int.reduceLT, Int.reduceLE, Int.reduceGT, Int.reduceGE, decide_true, decide_false, Int.reduceAdd, Int.reduceSub, Int.reduceNeg, Int.cast_ofNat_Int, wrapC, Int.reduceToNat, Int.zero_le_ofNat, bne_self_eq_false]
  exact .same _
theorem fn44y : Cn Try.prog 44 [intV 2] (intV 1) := by
  refine Cn.of mixed Try.func44 rfl Try.call44 Try.ntmps44 Try.results44 (by simp) (by kernel_rfl) trivial fun _ => ?_
  simp only [go_sem, Nat.reduceEqDiff, Nat.reduceAdd, Nat.reduceSub, Nat.reduceMul, Nat.reduceLeDiff, Nat.reduceLT, Nat.reduceBEq, reduceIte, Int.reduceBEq, Int.reduceBNe, Int.reduceLT, Int.reduceLE, Int.reduceGT, Int.reduceGE, decide_true, decide_false, Int.reduceAdd, Int.reduceSub, Int.reduceNeg, Int.cast_ofNat_Int, wrapC, Int.reduceToNat, Int.zero_le_ofNat, bne_self_eq_false]
  exact .same _
theorem fn77x : Cn Try.prog 77 [intV 50] (.tup [boolV true, .d (.sl [[.val (.int .i64 1)]])]) := by
  refine Cn.of mixed Try.func77 rfl Try.call77 Try.ntmps77 Try.results77 (by simp) (by kernel_rfl) (by simp [refs_tup, refsL_cons, refsL_nil, refs_d]) fun _ => ?_
  simp only [go_sem, Nat.reduceEqDiff, Nat.reduceAdd, Nat.reduceSub, Nat.reduceMul, Nat.reduceLeDiff, Nat.reduceLT, Nat.reduceBEq, reduceIte, Int.reduceBEq, Int.reduceBNe, Int.reduceLT, Int.reduceLE, Int.reduceGT, Int.reduceGE, decide_true, decide_false, Int.reduceAdd, Int.reduceSub, Int.reduceNeg, Int.cast_ofNat_Int, wrapC, Int.reduceToNat, Int.zero_le_ofNat, bne_self_eq_false]
  exact .same _
theorem fn77y : Cn Try.prog 77 [intV 2] (.tup [boolV true, .d (.sl [])]) := by
  refine Cn.of mixed Try.func77 rfl Try.call77 Try.ntmps77 Try.results77 (by simp) (by kernel_rfl) (by simp [refs_tup, refsL_cons, refsL_nil, refs_d]) fun _ => ?_
  simp only [go_sem, Nat.reduceEqDiff, Nat.reduceAdd, Nat.reduceSub, Nat.reduceMul, Nat.reduceLeDiff, Nat.reduceLT, Nat.reduceBEq, reduceIte, Int.reduceBEq, Int.reduceBNe, Int.reduceLT, Int.reduceLE, Int.reduceGT, Int.reduceGE, decide_true, decide_false, Int.reduceAdd, Int.reduceSub, Int.reduceNeg, Int.cast_ofNat_Int, wrapC, Int.reduceToNat, Int.zero_le_ofNat, bne_self_eq_false]
  exact .tupL ⟨.same _, .nil, trivial⟩

theorem fn73y (a b : Int) (ha : 1 ≤ a) (ha' : a ≤ 1000000) (hb : 1 ≤ b) (hb' : b ≤ 1000000) : Cl Try.prog 73 [aggV nodeY.enc, .ptr 0 1 0 0, intV b] [⟨1, [[intV a]]⟩] (boolV true) [⟨1, [[intV (a - 1)]]⟩] := by
  have ey : aggV nodeY.enc = .agg [intV 2, .d (.val (.string strY)), .d (.val (.bool false)), .d (.sl []), .d (.sl []), .d (.sl [])] := by simp [aggV, nodeY, NodeA.enc_mk]
  refine Cl.of mixed Try.func73 rfl Try.call73 Try.ntmps73 Try.results73 (by simp) (by kernel_rfl) rfl (by simp only [go_sem, Nat.reduceEqDiff, Nat.reduceAdd, Nat.reduceSub, Nat.reduceMul, Nat.reduceLeDiff, Nat.reduceLT, Nat.reduceBEq, reduceIte, ey]) (by simp [refs_d]) (by simp [okRows_cons, okRows_nil, refsL_cons, refsL_nil, refs_d]) (by simp [okRows_cons, okRows_nil, refsL_cons, refsL_nil, refs_d]) fun _ => ?_
  have e1 : IntKind.wrap .i64 (a - 1) = a - 1 := wrapC (by omega) (by omega)
  have e2 : decide (a - 1 < 0) = false := by simp; omega
  have e3 : decide (b ≤ 0) = false := by simp; omega
  simp only [go_sem, Nat.reduceEqDiff, Nat.reduceAdd, Nat.reduceSub, Nat.reduceMul, Nat.reduceLeDiff, Nat.reduceLT, Nat.reduceBEq, reduceIte, Int.reduceBEq, Int.reduceBNe, Int.reduceLT, Int.reduceLE, Int.reduceGT, Int.reduceGE, decide_true, decide_false, Int.reduceAdd, Int.reduceSub, Int.reduceNeg, Int.cast_ofNat_Int, wrapC, Int.reduceToNat, Int.zero_le_ofNat, bne_self_eq_false, ey, e1, e2, e3]
  refine AW.roundsR mixed (by kernel_rfl) (fun _ : Unit => [(24, intV 0), (25, intV 0)]) (fun _ => [some ⟨1, [[intV (a - 1)]]⟩]) (fun _ => True) (fun _ => 0) () [0] trivial ?_ ?_
  · simp only [go_sem, Nat.reduceEqDiff, Nat.reduceAdd, Nat.reduceSub, Nat.reduceMul, Nat.reduceLeDiff, Nat.reduceLT, Nat.reduceBEq, reduceIte, Int.reduceBEq, Int.reduceBNe, Int.reduceLT, Int.reduceLE, Int.reduceGT, Int.reduceGE, decide_true, decide_false, Int.reduceAdd, Int.reduceSub, Int.reduceNeg, Int.cast_ofNat_Int, wrapC, Int.reduceToNat, Int.zero_le_ofNat, bne_self_eq_false]
  rintro _ _
  simp only [go_sem, Nat.reduceEqDiff, Nat.reduceAdd, Nat.reduceSub, Nat.reduceMul, Nat.reduceLeDiff, Nat.reduceLT, Nat.reduceBEq, reduceIte, Int.reduceBEq, Int.reduceBNe, Int.reduceLT, Int.reduceLE, Int.reduceGT, Int.reduceGE, decide_true, decide_false, Int.reduceAdd, Int.reduceSub, Int.reduceNeg, Int.cast_ofNat_Int, wrapC, Int.reduceToNat, Int.zero_le_ofNat, bne_self_eq_false]
  exact ⟨.same _, SealAll.refl _, trivial⟩

theorem fn73x : Cl Try.prog 73 [aggV nodeX.enc, .ptr 0 1 0 0, intV 60] [⟨1, [[intV 4000]]⟩] (boolV true) [⟨1, [[intV 3998]]⟩] := by
  have ey : aggV nodeY.enc = .agg [intV 2, .d (.val (.string strY)), .d (.val (.bool false)), .d (.sl []), .d (.sl []), .d (.sl [])] := by simp [aggV, nodeY, NodeA.enc_mk]
  have ex : aggV nodeX.enc = .agg [intV 50, .d (.val (.string strX)), .d (.val (.bool false)), .d (.sl []), .d (.sl []), slV NodeA.enc [nodeY]] := by simp [aggV, nodeX, NodeA.enc_mk]
  have h73 := fn73y 3999 59 (by omega) (by omega) (by omega) (by omega)
  rw [ey] at h73
  refine Cl.of mixed Try.func73 rfl Try.call73 Try.ntmps73 Try.results73 (by simp) (by kernel_rfl) rfl (by simp only [go_sem, Nat.reduceEqDiff, Nat.reduceAdd, Nat.reduceSub, Nat.reduceMul, Nat.reduceLeDiff, Nat.reduceLT, Nat.reduceBEq, reduceIte, ex]) (by simp [refs_d]) (by simp [okRows_cons, okRows_nil, refsL_cons, refsL_nil, refs_d]) (by simp [okRows_cons, okRows_nil, refsL_cons, refsL_nil, refs_d]) fun _ => ?_
  simp only [go_sem, Nat.reduceEqDiff, Nat.reduceAdd, Nat.reduceSub, Nat.reduceMul, Nat.reduceLeDiff, Nat.reduceLT, Nat.reduceBEq, reduceIte, Int.reduceBEq, Int.reduceBNe, Int.reduceLT, Int.reduceLE, Int.reduceGT, Int.reduceGE, decide_true, decide_false, Int.reduceAdd, Int.reduceSub, Int.reduceNeg, Int.cast_ofNat_Int, wrapC, Int.reduceToNat, Int.zero_le_ofNat, bne_self_eq_false, ex]
  refine AW.unroll mixed (by kernel_rfl) 1 ?_
  simp only [go_sem, Nat.reduceEqDiff, Nat.reduceAdd, Nat.reduceSub, Nat.reduceMul, Nat.reduceLeDiff, Nat.reduceLT, Nat.reduceBEq, reduceIte, Int.reduceBEq, Int.reduceBNe, Int.reduceLT, Int.reduceLE, Int.reduceGT, Int.reduceGE, decide_true, decide_false, Int.reduceAdd, Int.reduceSub, Int.reduceNeg, Int.cast_ofNat_Int, wrapC, Int.reduceToNat, Int.zero_le_ofNat, bne_self_eq_false, ex]
  refine callK_loc [0] h73 (by simp only [go_sem, Nat.reduceEqDiff, Nat.reduceAdd, Nat.reduceSub, Nat.reduceMul, Nat.reduceLeDiff, Nat.reduceLT, Nat.reduceBEq, reduceIte, Int.reduceBEq, Int.reduceBNe, Int.reduceLT, Int.reduceLE, Int.reduceGT, Int.reduceGE, decide_true, decide_false, Int.reduceAdd, Int.reduceSub, Int.reduceNeg, Int.cast_ofNat_Int, wrapC, Int.reduceToNat, Int.zero_le_ofNat, bne_self_eq_false]; rfl) (by simp) (by simp only [go_sem, Nat.reduceEqDiff, Nat.reduceAdd, Nat.reduceSub, Nat.reduceMul, Nat.reduceLeDiff, Nat.reduceLT, Nat.reduceBEq, reduceIte, Int.reduceBEq, Int.reduceBNe, Int.reduceLT, Int.reduceLE, Int.reduceGT, Int.reduceGE, decide_true, decide_false, Int.reduceAdd, Int.reduceSub, Int.reduceNeg, Int.cast_ofNat_Int, wrapC, Int.reduceToNat, Int.zero_le_ofNat, bne_self_eq_false]; try rfl) ?_
  simp only [go_sem, Nat.reduceEqDiff, Nat.reduceAdd, Nat.reduceSub, Nat.reduceMul, Nat.reduceLeDiff, Nat.reduceLT, Nat.reduceBEq, reduceIte, Int.reduceBEq, Int.reduceBNe, Int.reduceLT, Int.reduceLE, Int.reduceGT, Int.reduceGE, decide_true, decide_false, Int.reduceAdd, Int.reduceSub, Int.reduceNeg, Int.cast_ofNat_Int, wrapC, Int.reduceToNat, Int.zero_le_ofNat, bne_self_eq_false, ex]
  exact ⟨.same _, SealAll.refl _, trivial⟩

abbrev placeV : V := .agg [boolV false, boolV false, boolV false]
theorem fn74y : Cn Try.prog 74 [aggV nodeY.enc, placeV] (boolV true) := by
  have ey : aggV nodeY.enc = .agg [intV 2, .d (.val (.string strY)), .d (.val (.bool false)), .d (.sl []), .d (.sl []), .d (.sl [])] := by simp [aggV, nodeY, NodeA.enc_mk]
  refine Cn.of mixed Try.func74 rfl Try.call74 Try.ntmps74 Try.results74 (by simp) (by kernel_rfl) trivial fun _ => ?_
  simp only [go_sem, Nat.reduceEqDiff, Nat.reduceAdd, Nat.reduceSub, Nat.reduceMul, Nat.reduceLeDiff, Nat.reduceLT, Nat.reduceBEq, reduceIte, Int.reduceBEq, Int.reduceBNe, Int.reduceLT, Int.reduceLE, Int.reduceGT, Int.reduceGE, decide_true, decide_false, Int.reduceAdd, Int.reduceSub, Int.reduceNeg, Int.cast_ofNat_Int, wrapC, Int.reduceToNat, Int.zero_le_ofNat, bne_self_eq_false, ey]
  refine callK_pure fn77y (by simp only [go_sem, Nat.reduceEqDiff, Nat.reduceAdd, Nat.reduceSub, Nat.reduceMul, Nat.reduceLeDiff, Nat.reduceLT, Nat.reduceBEq, reduceIte]) ?_
  simp only [go_sem, Nat.reduceEqDiff, Nat.reduceAdd, Nat.reduceSub, Nat.reduceMul, Nat.reduceLeDiff, Nat.reduceLT, Nat.reduceBEq, reduceIte, Int.reduceBEq, Int.reduceBNe, Int.reduceLT, Int.reduceLE, Int.reduceGT, Int.reduceGE, decide_true, decide_false, Int.reduceAdd, Int.reduceSub, Int.reduceNeg, Int.cast_ofNat_Int, wrapC, Int.reduceToNat, Int.zero_le_ofNat, bne_self_eq_false, ey]
  refine callK_pure (fn49 strY) (by simp only [go_sem, Nat.reduceEqDiff, Nat.reduceAdd, Nat.reduceSub, Nat.reduceMul, Nat.reduceLeDiff, Nat.reduceLT, Nat.reduceBEq, reduceIte]) ?_
  simp only [go_sem, Nat.reduceEqDiff, Nat.reduceAdd, Nat.reduceSub, Nat.reduceMul, Nat.reduceLeDiff, Nat.reduceLT, Nat.reduceBEq, reduceIte, Int.reduceBEq, Int.reduceBNe, Int.reduceLT, Int.reduceLE, Int.reduceGT, Int.reduceGE, decide_true, decide_false, Int.reduceAdd, Int.reduceSub, Int.reduceNeg, Int.cast_ofNat_Int, wrapC, Int.reduceToNat, Int.zero_le_ofNat, bne_self_eq_false, ey, pB_true.2 name_y]
  refine AW.unroll mixed (by kernel_rfl) 0 ?_
  simp only [go_sem, Nat.reduceEqDiff, Nat.reduceAdd, Nat.reduceSub, Nat.reduceMul, Nat.reduceLeDiff, Nat.reduceLT, Nat.reduceBEq, reduceIte, Int.reduceBEq, Int.reduceBNe, Int.reduceLT, Int.reduceLE, Int.reduceGT, Int.reduceGE, decide_true, decide_false, Int.reduceAdd, Int.reduceSub, Int.reduceNeg, Int.cast_ofNat_Int, wrapC, Int.reduceToNat, Int.zero_le_ofNat, bne_self_eq_false, ey]
  exact .same _
theorem ldK (x : NodeA) : ldV true 6 (x.enc.map .d) = some (.agg (x.enc.map .d)) := ldV_node
theorem fn74x : Cn Try.prog 74 [aggV nodeX.enc, placeV] (boolV true) := by
  have ey : aggV nodeY.enc = .agg [intV 2, .d (.val (.string strY)), .d (.val (.bool false)), .d (.sl []), .d (.sl []), .d (.sl [])] := by simp [aggV, nodeY, NodeA.enc_mk]
  have ex : aggV nodeX.enc = .agg [intV 50, .d (.val (.string strX)), .d (.val (.bool false)), .d (.sl []), .d (.sl []), slV NodeA.enc [nodeY]] := by simp [aggV, nodeX, NodeA.enc_mk]
  refine Cn.of mixed Try.func74 rfl Try.call74 Try.ntmps74 Try.results74 (by simp) (by kernel_rfl) trivial fun _ => ?_
  simp only [go_sem, Nat.reduceEqDiff, Nat.reduceAdd, Nat.reduceSub, Nat.reduceMul, Nat.reduceLeDiff, Nat.reduceLT, Nat.reduceBEq, reduceIte, Int.reduceBEq, Int.reduceBNe, Int.reduceLT, Int.reduceLE, Int.reduceGT, Int.reduceGE, decide_true, decide_false, Int.reduceAdd, Int.reduceSub, Int.reduceNeg, Int.cast_ofNat_Int, wrapC, Int.reduceToNat, Int.zero_le_ofNat, bne_self_eq_false, ex]
  refine callK_pure fn77x (by simp only [go_sem, Nat.reduceEqDiff, Nat.reduceAdd, Nat.reduceSub, Nat.reduceMul, Nat.reduceLeDiff, Nat.reduceLT, Nat.reduceBEq, reduceIte]) ?_
  simp only [go_sem, Nat.reduceEqDiff, Nat.reduceAdd, Nat.reduceSub, Nat.reduceMul, Nat.reduceLeDiff, Nat.reduceLT, Nat.reduceBEq, reduceIte, Int.reduceBEq, Int.reduceBNe, Int.reduceLT, Int.reduceLE, Int.reduceGT, Int.reduceGE, decide_true, decide_false, Int.reduceAdd, Int.reduceSub, Int.reduceNeg, Int.cast_ofNat_Int, wrapC, Int.reduceToNat, Int.zero_le_ofNat, bne_self_eq_false, ex]
  refine callK_pure (fn49 strX) (by simp only [go_sem, Nat.reduceEqDiff, Nat.reduceAdd, Nat.reduceSub, Nat.reduceMul, Nat.reduceLeDiff, Nat.reduceLT, Nat.reduceBEq, reduceIte]) ?_
  simp only [go_sem, Nat.reduceEqDiff, Nat.reduceAdd, Nat.reduceSub, Nat.reduceMul, Nat.reduceLeDiff, Nat.reduceLT, Nat.reduceBEq, reduceIte, Int.reduceBEq, Int.reduceBNe, Int.reduceLT, Int.reduceLE, Int.reduceGT, Int.reduceGE, decide_true, decide_false, Int.reduceAdd, Int.reduceSub, Int.reduceNeg, Int.cast_ofNat_Int, wrapC, Int.reduceToNat, Int.zero_le_ofNat, bne_self_eq_false, ex, pB_true.2 name_x]
  refine AW.unroll mixed (by kernel_rfl) 1 ?_
  simp only [go_sem, Nat.reduceEqDiff, Nat.reduceAdd, Nat.reduceSub, Nat.reduceMul, Nat.reduceLeDiff, Nat.reduceLT, Nat.reduceBEq, reduceIte, Int.reduceBEq, Int.reduceBNe, Int.reduceLT, Int.reduceLE, Int.reduceGT, Int.reduceGE, decide_true, decide_false, Int.reduceAdd, Int.reduceSub, Int.reduceNeg, Int.cast_ofNat_Int, wrapC, Int.reduceToNat, Int.zero_le_ofNat, bne_self_eq_false, ex]
  refine pcallK_intro fn44y (by simp only [go_sem, Nat.reduceEqDiff, Nat.reduceAdd, Nat.reduceSub, Nat.reduceMul, Nat.reduceLeDiff, Nat.reduceLT, Nat.reduceBEq, reduceIte]) ?_
  simp only [go_sem, Nat.reduceEqDiff, Nat.reduceAdd, Nat.reduceSub, Nat.reduceMul, Nat.reduceLeDiff, Nat.reduceLT, Nat.reduceBEq, reduceIte, Int.reduceBEq, Int.reduceBNe, Int.reduceLT, Int.reduceLE, Int.reduceGT, Int.reduceGE, decide_true, decide_false, Int.reduceAdd, Int.reduceSub, Int.reduceNeg, Int.cast_ofNat_Int, wrapC, Int.reduceToNat, Int.zero_le_ofNat, bne_self_eq_false, ex]
  have h74 := fn74y
  rw [ey] at h74
  refine pcallK_intro h74 (by simp only [go_sem, Nat.reduceEqDiff, Nat.reduceAdd, Nat.reduceSub, Nat.reduceMul, Nat.reduceLeDiff, Nat.reduceLT, Nat.reduceBEq, reduceIte]) ?_
  simp only [go_sem, Nat.reduceEqDiff, Nat.reduceAdd, Nat.reduceSub, Nat.reduceMul, Nat.reduceLeDiff, Nat.reduceLT, Nat.reduceBEq, reduceIte, Int.reduceBEq, Int.reduceBNe, Int.reduceLT, Int.reduceLE, Int.reduceGT, Int.reduceGE, decide_true, decide_false, Int.reduceAdd, Int.reduceSub, Int.reduceNeg, Int.cast_ofNat_Int, wrapC, Int.reduceToNat, Int.zero_le_ofNat, bne_self_eq_false, ex]
  exact .same _

theorem fn64x : Cn Try.prog 64 [aggV nodeX.enc, intV 3] (intV 0) := by
  have ex : aggV nodeX.enc = .agg [intV 50, .d (.val (.string strX)), .d (.val (.bool false)), .d (.sl []), .d (.sl []), slV NodeA.enc [nodeY]] := by simp [aggV, nodeX, NodeA.enc_mk]
  have h73 := fn73x
  have h74 := fn74x
  rw [ex] at h73 h74
  refine Cn.of mixed Try.func64 rfl Try.call64 Try.ntmps64 Try.results64 (by simp) (by kernel_rfl) trivial fun _ => ?_
  simp only [go_sem, Nat.reduceEqDiff, Nat.reduceAdd, Nat.reduceSub, Nat.reduceMul, Nat.reduceLeDiff, Nat.reduceLT, Nat.reduceBEq, reduceIte, Int.reduceBEq, Int.reduceBNe, Int.reduceLT, Int.reduceLE, Int.reduceGT, Int.reduceGE, decide_true, decide_false, Int.reduceAdd, Int.reduceSub, Int.reduceNeg, Int.cast_ofNat_Int, wrapC, Int.reduceToNat, Int.zero_le_ofNat, bne_self_eq_false, ex]
  refine callK_loc [8] h73 (by simp only [renRow_cons, renRow_nil, renV_agg, renV_d, renV_ptr, List.getD_cons_zero, List.append_nil]; rfl) (by simp) (by simp only [go_sem, Nat.reduceEqDiff, Nat.reduceAdd, Nat.reduceSub, Nat.reduceMul, Nat.reduceLeDiff, Nat.reduceLT, Nat.reduceBEq, reduceIte, Int.reduceBEq, Int.reduceBNe, Int.reduceLT, Int.reduceLE, Int.reduceGT, Int.reduceGE, decide_true, decide_false, Int.reduceAdd, Int.reduceSub, Int.reduceNeg, Int.cast_ofNat_Int, wrapC, Int.reduceToNat, Int.zero_le_ofNat, bne_self_eq_false]; try rfl) ?_
  simp only [go_sem, Nat.reduceEqDiff, Nat.reduceAdd, Nat.reduceSub, Nat.reduceMul, Nat.reduceLeDiff, Nat.reduceLT, Nat.reduceBEq, reduceIte, Int.reduceBEq, Int.reduceBNe, Int.reduceLT, Int.reduceLE, Int.reduceGT, Int.reduceGE, decide_true, decide_false, Int.reduceAdd, Int.reduceSub, Int.reduceNeg, Int.cast_ofNat_Int, wrapC, Int.reduceToNat, Int.zero_le_ofNat, bne_self_eq_false, ex]
  refine callK_pure fn44x (by simp only [go_sem, Nat.reduceEqDiff, Nat.reduceAdd, Nat.reduceSub, Nat.reduceMul, Nat.reduceLeDiff, Nat.reduceLT, Nat.reduceBEq, reduceIte]) ?_
  simp only [go_sem, Nat.reduceEqDiff, Nat.reduceAdd, Nat.reduceSub, Nat.reduceMul, Nat.reduceLeDiff, Nat.reduceLT, Nat.reduceBEq, reduceIte, Int.reduceBEq, Int.reduceBNe, Int.reduceLT, Int.reduceLE, Int.reduceGT, Int.reduceGE, decide_true, decide_false, Int.reduceAdd, Int.reduceSub, Int.reduceNeg, Int.cast_ofNat_Int, wrapC, Int.reduceToNat, Int.zero_le_ofNat, bne_self_eq_false, ex]
  refine callK_pure h74 (by simp only [go_sem, Nat.reduceEqDiff, Nat.reduceAdd, Nat.reduceSub, Nat.reduceMul, Nat.reduceLeDiff, Nat.reduceLT, Nat.reduceBEq, reduceIte]) ?_
  simp only [go_sem, Nat.reduceEqDiff, Nat.reduceAdd, Nat.reduceSub, Nat.reduceMul, Nat.reduceLeDiff, Nat.reduceLT, Nat.reduceBEq, reduceIte, Int.reduceBEq, Int.reduceBNe, Int.reduceLT, Int.reduceLE, Int.reduceGT, Int.reduceGE, decide_true, decide_false, Int.reduceAdd, Int.reduceSub, Int.reduceNeg, Int.cast_ofNat_Int, wrapC, Int.reduceToNat, Int.zero_le_ofNat, bne_self_eq_false, ex]
  exact .same _

theorem fn43x : Cn Try.prog 43 [aggV nodeX.enc] (intV 0) := by
  have ex : aggV nodeX.enc = .agg [intV 50, .d (.val (.string strX)), .d (.val (.bool false)), .d (.sl []), .d (.sl []), slV NodeA.enc [nodeY]] := by simp [aggV, nodeX, NodeA.enc_mk]
  have h64 := fn64x
  rw [ex] at h64
  refine Cn.of mixed Try.func43 rfl Try.call43 Try.ntmps43 Try.results43 (by simp) (by kernel_rfl) trivial fun _ => ?_
  simp only [go_sem, Nat.reduceEqDiff, Nat.reduceAdd, Nat.reduceSub, Nat.reduceMul, Nat.reduceLeDiff, Nat.reduceLT, Nat.reduceBEq, reduceIte, Int.reduceBEq, Int.reduceBNe, Int.reduceLT, Int.reduceLE, Int.reduceGT, Int.reduceGE, decide_true, decide_false, Int.reduceAdd, Int.reduceSub, Int.reduceNeg, Int.cast_ofNat_Int, wrapC, Int.reduceToNat, Int.zero_le_ofNat, bne_self_eq_false, ex]
  refine callK_pure fn44x (by simp only [go_sem, Nat.reduceEqDiff, Nat.reduceAdd, Nat.reduceSub, Nat.reduceMul, Nat.reduceLeDiff, Nat.reduceLT, Nat.reduceBEq, reduceIte]) ?_
  simp only [go_sem, Nat.reduceEqDiff, Nat.reduceAdd, Nat.reduceSub, Nat.reduceMul, Nat.reduceLeDiff, Nat.reduceLT, Nat.reduceBEq, reduceIte, Int.reduceBEq, Int.reduceBNe, Int.reduceLT, Int.reduceLE, Int.reduceGT, Int.reduceGE, decide_true, decide_false, Int.reduceAdd, Int.reduceSub, Int.reduceNeg, Int.cast_ofNat_Int, wrapC, Int.reduceToNat, Int.zero_le_ofNat, bne_self_eq_false, ex]
  refine callK_pure h64 (by simp only [go_sem, Nat.reduceEqDiff, Nat.reduceAdd, Nat.reduceSub, Nat.reduceMul, Nat.reduceLeDiff, Nat.reduceLT, Nat.reduceBEq, reduceIte]) ?_
  simp only [go_sem, Nat.reduceEqDiff, Nat.reduceAdd, Nat.reduceSub, Nat.reduceMul, Nat.reduceLeDiff, Nat.reduceLT, Nat.reduceBEq, reduceIte, Int.reduceBEq, Int.reduceBNe, Int.reduceLT, Int.reduceLE, Int.reduceGT, Int.reduceGE, decide_true, decide_false, Int.reduceAdd, Int.reduceSub, Int.reduceNeg, Int.cast_ofNat_Int, wrapC, Int.reduceToNat, Int.zero_le_ofNat, bne_self_eq_false, ex]
  exact .same _

theorem refs_agg' {S : Nat → Prop} {l : List D} : V.refs S (aggV l) := by simp [aggV, refs_agg, refsL_data]
theorem fn65 (x : ByteArray) : Cn Try.prog 65 [.d (.val (.string x))] (aggV (NamesA.enc ⟨false, [x]⟩)) := by
  refine Cn.of mixed Try.func65 rfl Try.call65 Try.ntmps65 Try.results65 (by simp) (by kernel_rfl) refs_agg' fun _ => ?_
  simp only [go_sem, Nat.reduceEqDiff, Nat.reduceAdd, Nat.reduceSub, Nat.reduceMul, Nat.reduceLeDiff, Nat.reduceLT, Nat.reduceBEq, reduceIte, Int.reduceBEq, Int.reduceBNe, Int.reduceLT, Int.reduceLE, Int.reduceGT, Int.reduceGE, decide_true, decide_false, Int.reduceAdd, Int.reduceSub, Int.reduceNeg, Int.cast_ofNat_Int, wrapC, Int.reduceToNat, Int.zero_le_ofNat, bne_self_eq_false, ea]
  exact .same _

theorem fn47y : Cn Try.prog 47 [aggV nodeY.enc] (aggV (NamesA.enc ⟨false, [strY]⟩)) := by
  have ey : aggV nodeY.enc = .agg [intV 2, .d (.val (.string strY)), .d (.val (.bool false)), .d (.sl []), .d (.sl []), .d (.sl [])] := by simp [aggV, nodeY, NodeA.enc_mk]
  refine Cn.of mixed Try.func47 rfl Try.call47 Try.ntmps47 Try.results47 (by simp) (by kernel_rfl) refs_agg' fun _ => ?_
  simp only [go_sem, Nat.reduceEqDiff, Nat.reduceAdd, Nat.reduceSub, Nat.reduceMul, Nat.reduceLeDiff, Nat.reduceLT, Nat.reduceBEq, reduceIte, Int.reduceBEq, Int.reduceBNe, Int.reduceLT, Int.reduceLE, Int.reduceGT, Int.reduceGE, decide_true, decide_false, Int.reduceAdd, Int.reduceSub, Int.reduceNeg, Int.cast_ofNat_Int, wrapC, Int.reduceToNat, Int.zero_le_ofNat, bne_self_eq_false, ey]
  refine callK_pure (fn65 strY) (by simp only [go_sem, Nat.reduceEqDiff, Nat.reduceAdd, Nat.reduceSub, Nat.reduceMul, Nat.reduceLeDiff, Nat.reduceLT, Nat.reduceBEq, reduceIte]) ?_
  simp only [go_sem, Nat.reduceEqDiff, Nat.reduceAdd, Nat.reduceSub, Nat.reduceMul, Nat.reduceLeDiff, Nat.reduceLT, Nat.reduceBEq, reduceIte, Int.reduceBEq, Int.reduceBNe, Int.reduceLT, Int.reduceLE, Int.reduceGT, Int.reduceGE, decide_true, decide_false, Int.reduceAdd, Int.reduceSub, Int.reduceNeg, Int.cast_ofNat_Int, wrapC, Int.reduceToNat, Int.zero_le_ofNat, bne_self_eq_false, ey, ea]
  exact .same _

theorem unionXY : unionS ⟨false, []⟩ ⟨false, [strY]⟩ = ⟨false, [strY]⟩ := by simp [unionS, mixS]
theorem fn47x : Cn Try.prog 47 [aggV nodeX.enc] (aggV (NamesA.enc ⟨false, [strY]⟩)) := by
  have ex : aggV nodeX.enc = .agg [intV 50, .d (.val (.string strX)), .d (.val (.bool false)), .d (.sl []), .d (.sl []), slV NodeA.enc [nodeY]] := by simp [aggV, nodeX, NodeA.enc_mk]
  have ey : aggV nodeY.enc = .agg [intV 2, .d (.val (.string strY)), .d (.val (.bool false)), .d (.sl []), .d (.sl []), .d (.sl [])] := by simp [aggV, nodeY, NodeA.enc_mk]
  have h47 := fn47y
  rw [ey] at h47
  have h34 := fn34 ⟨false, []⟩ ⟨false, [strY]⟩ (by simp)
  rw [unionXY] at h34
  refine Cn.of mixed Try.func47 rfl Try.call47 Try.ntmps47 Try.results47 (by simp) (by kernel_rfl) refs_agg' fun _ => ?_
  simp only [go_sem, Nat.reduceEqDiff, Nat.reduceAdd, Nat.reduceSub, Nat.reduceMul, Nat.reduceLeDiff, Nat.reduceLT, Nat.reduceBEq, reduceIte, Int.reduceBEq, Int.reduceBNe, Int.reduceLT, Int.reduceLE, Int.reduceGT, Int.reduceGE, decide_true, decide_false, Int.reduceAdd, Int.reduceSub, Int.reduceNeg, Int.cast_ofNat_Int, wrapC, Int.reduceToNat, Int.zero_le_ofNat, bne_self_eq_false, ex]
  refine AW.unroll mixed (by kernel_rfl) 1 ?_
  simp only [go_sem, Nat.reduceEqDiff, Nat.reduceAdd, Nat.reduceSub, Nat.reduceMul, Nat.reduceLeDiff, Nat.reduceLT, Nat.reduceBEq, reduceIte, Int.reduceBEq, Int.reduceBNe, Int.reduceLT, Int.reduceLE, Int.reduceGT, Int.reduceGE, decide_true, decide_false, Int.reduceAdd, Int.reduceSub, Int.reduceNeg, Int.cast_ofNat_Int, wrapC, Int.reduceToNat, Int.zero_le_ofNat, bne_self_eq_false, ex]
  refine pcallK_intro h47 (by simp only [go_sem, Nat.reduceEqDiff, Nat.reduceAdd, Nat.reduceSub, Nat.reduceMul, Nat.reduceLeDiff, Nat.reduceLT, Nat.reduceBEq, reduceIte]) ?_
  simp only [go_sem, Nat.reduceEqDiff, Nat.reduceAdd, Nat.reduceSub, Nat.reduceMul, Nat.reduceLeDiff, Nat.reduceLT, Nat.reduceBEq, reduceIte, Int.reduceBEq, Int.reduceBNe, Int.reduceLT, Int.reduceLE, Int.reduceGT, Int.reduceGE, decide_true, decide_false, Int.reduceAdd, Int.reduceSub, Int.reduceNeg, Int.cast_ofNat_Int, wrapC, Int.reduceToNat, Int.zero_le_ofNat, bne_self_eq_false, ex, ea]
  refine pcallK_conv h34 ⟨.aggL ⟨.same _, .nil, trivial⟩, .same _, trivial⟩ (by simp only [go_sem, Nat.reduceEqDiff, Nat.reduceAdd, Nat.reduceSub, Nat.reduceMul, Nat.reduceLeDiff, Nat.reduceLT, Nat.reduceBEq, reduceIte, ea]) ?_
  simp only [go_sem, Nat.reduceEqDiff, Nat.reduceAdd, Nat.reduceSub, Nat.reduceMul, Nat.reduceLeDiff, Nat.reduceLT, Nat.reduceBEq, reduceIte, Int.reduceBEq, Int.reduceBNe, Int.reduceLT, Int.reduceLE, Int.reduceGT, Int.reduceGE, decide_true, decide_false, Int.reduceAdd, Int.reduceSub, Int.reduceNeg, Int.cast_ofNat_Int, wrapC, Int.reduceToNat, Int.zero_le_ofNat, bne_self_eq_false, ex, ea]
  exact .same _

theorem fn46x : Cn Try.prog 46 [aggV nodeX.enc] (aggV (NamesA.enc ⟨false, [strX]⟩)) := by
  have ex : aggV nodeX.enc = .agg [intV 50, .d (.val (.string strX)), .d (.val (.bool false)), .d (.sl []), .d (.sl []), slV NodeA.enc [nodeY]] := by simp [aggV, nodeX, NodeA.enc_mk]
  refine Cn.of mixed Try.func46 rfl Try.call46 Try.ntmps46 Try.results46 (by simp) (by kernel_rfl) refs_agg' fun _ => ?_
  simp only [go_sem, Nat.reduceEqDiff, Nat.reduceAdd, Nat.reduceSub, Nat.reduceMul, Nat.reduceLeDiff, Nat.reduceLT, Nat.reduceBEq, reduceIte, Int.reduceBEq, Int.reduceBNe, Int.reduceLT, Int.reduceLE, Int.reduceGT, Int.reduceGE, decide_true, decide_false, Int.reduceAdd, Int.reduceSub, Int.reduceNeg, Int.cast_ofNat_Int, wrapC, Int.reduceToNat, Int.zero_le_ofNat, bne_self_eq_false, ex]
  refine callK_pure fn44x (by simp only [go_sem, Nat.reduceEqDiff, Nat.reduceAdd, Nat.reduceSub, Nat.reduceMul, Nat.reduceLeDiff, Nat.reduceLT, Nat.reduceBEq, reduceIte]) ?_
  simp only [go_sem, Nat.reduceEqDiff, Nat.reduceAdd, Nat.reduceSub, Nat.reduceMul, Nat.reduceLeDiff, Nat.reduceLT, Nat.reduceBEq, reduceIte, Int.reduceBEq, Int.reduceBNe, Int.reduceLT, Int.reduceLE, Int.reduceGT, Int.reduceGE, decide_true, decide_false, Int.reduceAdd, Int.reduceSub, Int.reduceNeg, Int.cast_ofNat_Int, wrapC, Int.reduceToNat, Int.zero_le_ofNat, bne_self_eq_false, ex]
  refine callK_pure (fn65 strX) (by simp only [go_sem, Nat.reduceEqDiff, Nat.reduceAdd, Nat.reduceSub, Nat.reduceMul, Nat.reduceLeDiff, Nat.reduceLT, Nat.reduceBEq, reduceIte]) ?_
  simp only [go_sem, Nat.reduceEqDiff, Nat.reduceAdd, Nat.reduceSub, Nat.reduceMul, Nat.reduceLeDiff, Nat.reduceLT, Nat.reduceBEq, reduceIte, Int.reduceBEq, Int.reduceBNe, Int.reduceLT, Int.reduceLE, Int.reduceGT, Int.reduceGE, decide_true, decide_false, Int.reduceAdd, Int.reduceSub, Int.reduceNeg, Int.cast_ofNat_Int, wrapC, Int.reduceToNat, Int.zero_le_ofNat, bne_self_eq_false, ex, ea]
  exact .same _

theorem fn26x : Cn Try.prog 26 [aggV nodeX.enc] (.tup [aggV (NamesA.enc ⟨false, [strY]⟩), intV 0]) := by
  have ex : aggV nodeX.enc = .agg [intV 50, .d (.val (.string strX)), .d (.val (.bool false)), .d (.sl []), .d (.sl []), slV NodeA.enc [nodeY]] := by simp [aggV, nodeX, NodeA.enc_mk]
  have h43 := fn43x
  have h47 := fn47x
  rw [ex] at h43 h47
  refine Cn.of mixed Try.func26 rfl Try.call26 Try.ntmps26 Try.results26 (by simp) (by kernel_rfl) (by simp [refs_tup, refsL_cons, refsL_nil, refs_d, refs_agg']) fun _ => ?_
  simp only [go_sem, Nat.reduceEqDiff, Nat.reduceAdd, Nat.reduceSub, Nat.reduceMul, Nat.reduceLeDiff, Nat.reduceLT, Nat.reduceBEq, reduceIte, Int.reduceBEq, Int.reduceBNe, Int.reduceLT, Int.reduceLE, Int.reduceGT, Int.reduceGE, decide_true, decide_false, Int.reduceAdd, Int.reduceSub, Int.reduceNeg, Int.cast_ofNat_Int, wrapC, Int.reduceToNat, Int.zero_le_ofNat, bne_self_eq_false, ex]
  refine callK_pure h43 (by simp only [go_sem, Nat.reduceEqDiff, Nat.reduceAdd, Nat.reduceSub, Nat.reduceMul, Nat.reduceLeDiff, Nat.reduceLT, Nat.reduceBEq, reduceIte]) ?_
  simp only [go_sem, Nat.reduceEqDiff, Nat.reduceAdd, Nat.reduceSub, Nat.reduceMul, Nat.reduceLeDiff, Nat.reduceLT, Nat.reduceBEq, reduceIte, Int.reduceBEq, Int.reduceBNe, Int.reduceLT, Int.reduceLE, Int.reduceGT, Int.reduceGE, decide_true, decide_false, Int.reduceAdd, Int.reduceSub, Int.reduceNeg, Int.cast_ofNat_Int, wrapC, Int.reduceToNat, Int.zero_le_ofNat, bne_self_eq_false, ex]
  refine callK_pure h47 (by simp only [go_sem, Nat.reduceEqDiff, Nat.reduceAdd, Nat.reduceSub, Nat.reduceMul, Nat.reduceLeDiff, Nat.reduceLT, Nat.reduceBEq, reduceIte]) ?_
  simp only [go_sem, Nat.reduceEqDiff, Nat.reduceAdd, Nat.reduceSub, Nat.reduceMul, Nat.reduceLeDiff, Nat.reduceLT, Nat.reduceBEq, reduceIte, Int.reduceBEq, Int.reduceBNe, Int.reduceLT, Int.reduceLE, Int.reduceGT, Int.reduceGE, decide_true, decide_false, Int.reduceAdd, Int.reduceSub, Int.reduceNeg, Int.cast_ofNat_Int, wrapC, Int.reduceToNat, Int.zero_le_ofNat, bne_self_eq_false, ex, ea]
  exact .same _
theorem fn24x : Cn Try.prog 24 [aggV nodeX.enc] (.tup [aggV (NamesA.enc ⟨false, [strX]⟩), intV 0]) := by
  have ex : aggV nodeX.enc = .agg [intV 50, .d (.val (.string strX)), .d (.val (.bool false)), .d (.sl []), .d (.sl []), slV NodeA.enc [nodeY]] := by simp [aggV, nodeX, NodeA.enc_mk]
  have h43 := fn43x
  have h47 := fn46x
  rw [ex] at h43 h47
  refine Cn.of mixed Try.func24 rfl Try.call24 Try.ntmps24 Try.results24 (by simp) (by kernel_rfl) (by simp [refs_tup, refsL_cons, refsL_nil, refs_d, refs_agg']) fun _ => ?_
  simp only [go_sem, Nat.reduceEqDiff, Nat.reduceAdd, Nat.reduceSub, Nat.reduceMul, Nat.reduceLeDiff, Nat.reduceLT, Nat.reduceBEq, reduceIte, Int.reduceBEq, Int.reduceBNe, Int.reduceLT, Int.reduceLE, Int.reduceGT, Int.reduceGE, decide_true, decide_false, Int.reduceAdd, Int.reduceSub, Int.reduceNeg, Int.cast_ofNat_Int, wrapC, Int.reduceToNat, Int.zero_le_ofNat, bne_self_eq_false, ex]
  refine callK_pure h43 (by simp only [go_sem, Nat.reduceEqDiff, Nat.reduceAdd, Nat.reduceSub, Nat.reduceMul, Nat.reduceLeDiff, Nat.reduceLT, Nat.reduceBEq, reduceIte]) ?_
  simp only [go_sem, Nat.reduceEqDiff, Nat.reduceAdd, Nat.reduceSub, Nat.reduceMul, Nat.reduceLeDiff, Nat.reduceLT, Nat.reduceBEq, reduceIte, Int.reduceBEq, Int.reduceBNe, Int.reduceLT, Int.reduceLE, Int.reduceGT, Int.reduceGE, decide_true, decide_false, Int.reduceAdd, Int.reduceSub, Int.reduceNeg, Int.cast_ofNat_Int, wrapC, Int.reduceToNat, Int.zero_le_ofNat, bne_self_eq_false, ex]
  refine callK_pure h47 (by simp only [go_sem, Nat.reduceEqDiff, Nat.reduceAdd, Nat.reduceSub, Nat.reduceMul, Nat.reduceLeDiff, Nat.reduceLT, Nat.reduceBEq, reduceIte]) ?_
  simp only [go_sem, Nat.reduceEqDiff, Nat.reduceAdd, Nat.reduceSub, Nat.reduceMul, Nat.reduceLeDiff, Nat.reduceLT, Nat.reduceBEq, reduceIte, Int.reduceBEq, Int.reduceBNe, Int.reduceLT, Int.reduceLE, Int.reduceGT, Int.reduceGE, decide_true, decide_false, Int.reduceAdd, Int.reduceSub, Int.reduceNeg, Int.cast_ofNat_Int, wrapC, Int.reduceToNat, Int.zero_le_ofNat, bne_self_eq_false, ex, ea]
  exact .same _

theorem sorted_one (x : ByteArray) : SortedS [x] := by
  intro i j a b hij ha hb
  have h1 := (List.getElem?_eq_some_iff.1 ha).1
  have h2 := (List.getElem?_eq_some_iff.1 hb).1
  simp at h1 h2
  omega
theorem fn7 : Cn Try.prog 7 [] (boolV true) := by
  have ex : aggV nodeX.enc = .agg [intV 50, .d (.val (.string strX)), .d (.val (.bool false)), .d (.sl []), .d (.sl []), slV NodeA.enc [nodeY]] := by simp [aggV, nodeX, NodeA.enc_mk]
  have ey : aggV nodeY.enc = .agg [intV 2, .d (.val (.string strY)), .d (.val (.bool false)), .d (.sl []), .d (.sl []), .d (.sl [])] := by simp [aggV, nodeY, NodeA.enc_mk]
  have h26 := fn26x
  have h24 := fn24x
  rw [ex] at h26 h24
  have e1 : pB (strY ∈ [strY]) = true := pB_true.2 (by simp)
  have e2 : pB (strX ∈ [strY]) = false := pB_false.2 (by simp)
  have e3 : pB (strX ∈ [strX]) = true := pB_true.2 (by simp)
  have h1 := fn10 ⟨false, [strY]⟩ strY (sorted_one _) (by simp)
  have h2 := fn10 ⟨false, [strY]⟩ strX (sorted_one _) (by simp)
  have h3 := fn10 ⟨false, [strX]⟩ strX (sorted_one _) (by simp)
  have h4 := fn8 ⟨false, [strY]⟩
  have e4 : pB (ValidL [strY]) = true := pB_true.2 (by
    intro j x hj
    have hj0 := (List.getElem?_eq_some_iff.1 hj).1
    have : j = 0 := by simp at hj0; exact hj0
    subst this
    simp at hj
    subst hj
    refine ⟨?_, fun i y hi => by omega⟩
    have : unprime strY = strY := by rw [unprime, if_neg]; rintro ⟨_, h⟩; have : (121 : UInt8) = 39 := Option.some.inj h; revert this; decide
    rw [VarS, this]; exact name_y)
  have b1 : (true != false) = true := rfl
  have b2 : (false != false) = false := rfl
  simp only [e1, e2, e3, e4, b1, b2] at h1 h2 h3 h4
  refine Cn.of mixed Try.func7 rfl Try.call7 Try.ntmps7 Try.results7 (by simp) (by kernel_rfl) trivial fun _ => ?_
  have nilY : NilD (.sl [[.val (.int .i64 2), .val (.string strY), .val (.bool false), .val (.slice none 0 0), .val (.slice none 0 0), .val (.slice none 0 0)]]) (slD NodeA.enc [nodeY]) := by
    show NilD _ (.sl [nodeY.enc])
    have : nodeY.enc = [.val (.int .i64 2), .val (.string strY), .val (.bool false), .sl [], .sl [], .sl []] := by simp [nodeY, NodeA.enc_mk]
    rw [this]
    exact .one ⟨.refl _, .refl _, .refl _, .nil _ _, .nil _ _, .nil _ _, trivial⟩
  simp only [go_sem, Nat.reduceEqDiff, Nat.reduceAdd, Nat.reduceSub, Nat.reduceMul, Nat.reduceLeDiff, Nat.reduceLT, Nat.reduceBEq, reduceIte, Int.reduceBEq, Int.reduceBNe, Int.reduceLT, Int.reduceLE, Int.reduceGT, Int.reduceGE, decide_true, decide_false, Int.reduceAdd, Int.reduceSub, Int.reduceNeg, Int.cast_ofNat_Int, wrapC, Int.reduceToNat, Int.zero_le_ofNat, bne_self_eq_false, ex]
  refine callK_conv h26 ⟨.aggL ⟨.same _, .same _, .same _, .nil, .nil, .d (.dn nilY), trivial⟩, trivial⟩ (by simp only [go_sem, Nat.reduceEqDiff, Nat.reduceAdd, Nat.reduceSub, Nat.reduceMul, Nat.reduceLeDiff, Nat.reduceLT, Nat.reduceBEq, reduceIte]) ?_
  simp only [go_sem, Nat.reduceEqDiff, Nat.reduceAdd, Nat.reduceSub, Nat.reduceMul, Nat.reduceLeDiff, Nat.reduceLT, Nat.reduceBEq, reduceIte, Int.reduceBEq, Int.reduceBNe, Int.reduceLT, Int.reduceLE, Int.reduceGT, Int.reduceGE, decide_true, decide_false, Int.reduceAdd, Int.reduceSub, Int.reduceNeg, Int.cast_ofNat_Int, wrapC, Int.reduceToNat, Int.zero_le_ofNat, bne_self_eq_false, ex, ea]
  refine callK_conv h24 ⟨.aggL ⟨.same _, .same _, .same _, .nil, .nil, .d (.dn nilY), trivial⟩, trivial⟩ (by simp only [go_sem, Nat.reduceEqDiff, Nat.reduceAdd, Nat.reduceSub, Nat.reduceMul, Nat.reduceLeDiff, Nat.reduceLT, Nat.reduceBEq, reduceIte]) ?_
  simp only [go_sem, Nat.reduceEqDiff, Nat.reduceAdd, Nat.reduceSub, Nat.reduceMul, Nat.reduceLeDiff, Nat.reduceLT, Nat.reduceBEq, reduceIte, Int.reduceBEq, Int.reduceBNe, Int.reduceLT, Int.reduceLE, Int.reduceGT, Int.reduceGE, decide_true, decide_false, Int.reduceAdd, Int.reduceSub, Int.reduceNeg, Int.cast_ofNat_Int, wrapC, Int.reduceToNat, Int.zero_le_ofNat, bne_self_eq_false, ex, ea]
  refine callK_pure h1 (by simp only [go_sem, Nat.reduceEqDiff, Nat.reduceAdd, Nat.reduceSub, Nat.reduceMul, Nat.reduceLeDiff, Nat.reduceLT, Nat.reduceBEq, reduceIte]) ?_
  simp only [go_sem, Nat.reduceEqDiff, Nat.reduceAdd, Nat.reduceSub, Nat.reduceMul, Nat.reduceLeDiff, Nat.reduceLT, Nat.reduceBEq, reduceIte, Int.reduceBEq, Int.reduceBNe, Int.reduceLT, Int.reduceLE, Int.reduceGT, Int.reduceGE, decide_true, decide_false, Int.reduceAdd, Int.reduceSub, Int.reduceNeg, Int.cast_ofNat_Int, wrapC, Int.reduceToNat, Int.zero_le_ofNat, bne_self_eq_false, ex, ea]
  refine callK_pure h2 (by simp only [go_sem, Nat.reduceEqDiff, Nat.reduceAdd, Nat.reduceSub, Nat.reduceMul, Nat.reduceLeDiff, Nat.reduceLT, Nat.reduceBEq, reduceIte]) ?_
  simp only [go_sem, Nat.reduceEqDiff, Nat.reduceAdd, Nat.reduceSub, Nat.reduceMul, Nat.reduceLeDiff, Nat.reduceLT, Nat.reduceBEq, reduceIte, Int.reduceBEq, Int.reduceBNe, Int.reduceLT, Int.reduceLE, Int.reduceGT, Int.reduceGE, decide_true, decide_false, Int.reduceAdd, Int.reduceSub, Int.reduceNeg, Int.cast_ofNat_Int, wrapC, Int.reduceToNat, Int.zero_le_ofNat, bne_self_eq_false, ex, ea]
  refine callK_pure h3 (by simp only [go_sem, Nat.reduceEqDiff, Nat.reduceAdd, Nat.reduceSub, Nat.reduceMul, Nat.reduceLeDiff, Nat.reduceLT, Nat.reduceBEq, reduceIte]) ?_
  simp only [go_sem, Nat.reduceEqDiff, Nat.reduceAdd, Nat.reduceSub, Nat.reduceMul, Nat.reduceLeDiff, Nat.reduceLT, Nat.reduceBEq, reduceIte, Int.reduceBEq, Int.reduceBNe, Int.reduceLT, Int.reduceLE, Int.reduceGT, Int.reduceGE, decide_true, decide_false, Int.reduceAdd, Int.reduceSub, Int.reduceNeg, Int.cast_ofNat_Int, wrapC, Int.reduceToNat, Int.zero_le_ofNat, bne_self_eq_false, ex, ea]
  refine callK_pure h4 (by simp only [go_sem, Nat.reduceEqDiff, Nat.reduceAdd, Nat.reduceSub, Nat.reduceMul, Nat.reduceLeDiff, Nat.reduceLT, Nat.reduceBEq, reduceIte]) ?_
  simp only [go_sem, Nat.reduceEqDiff, Nat.reduceAdd, Nat.reduceSub, Nat.reduceMul, Nat.reduceLeDiff, Nat.reduceLT, Nat.reduceBEq, reduceIte, Int.reduceBEq, Int.reduceBNe, Int.reduceLT, Int.reduceLE, Int.reduceGT, Int.reduceGE, decide_true, decide_false, Int.reduceAdd, Int.reduceSub, Int.reduceNeg, Int.cast_ofNat_Int, wrapC, Int.reduceToNat, Int.zero_le_ofNat, bne_self_eq_false, ex, ea]
  exact .same _
end Go.Proofs.Ytcgphoghmgeecaa
