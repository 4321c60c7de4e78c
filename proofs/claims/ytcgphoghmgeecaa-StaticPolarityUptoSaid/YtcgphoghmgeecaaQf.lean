/- Part of the proof of a law: contracts of the functions that the law reaches, or plain laws of them, out of the abstract layer (the texts YtcgphoghmgeecaaIso..). No condition. -/
import Derived.Test.YtcgphoghmgeecaaQe
namespace Go.Proofs.Ytcgphoghmgeecaa
open Go Go.Iso Go.Proofs
set_option linter.unusedSimpArgs false
set_option linter.unusedVariables false
set_option maxRecDepth 100000
set_option maxHeartbeats 1000000


/-- Both are valid. -/
def OkS (a b : NamesA) : Prop := ValidL a.list ∧ ValidL b.list
noncomputable def opS (f : NamesA → NamesA → NamesA) (a b : NamesA) : NamesA := if pB (OkS a b) = true then f a b else ⟨false, []⟩
noncomputable def errS (a b : NamesA) : Int := if pB (OkS a b) = true then 0 else 3
noncomputable abbrev resS (f : NamesA → NamesA → NamesA) (a b : NamesA) : V := .tup [aggV (opS f a b).enc, intV (errS a b)]
theorem resS_ok {f : NamesA → NamesA → NamesA} {a b : NamesA} (h : OkS a b) : resS f a b = .tup [.agg [.d (.val (.bool (f a b).all)), slV strV (f a b).list], intV 0] := by
  simp [resS, opS, errS, pB_true.2 h, aggV, NamesA.enc]
theorem resS_no {f : NamesA → NamesA → NamesA} {a b : NamesA} (h : ¬ OkS a b) : resS f a b = .tup [.agg [.d (.val (.bool false)), .d (.sl [])], intV 3] := by
  simp [resS, opS, errS, pB_false.2 h, aggV, NamesA.enc]
theorem ea (s : NamesA) : aggV s.enc = .agg [.d (.val (.bool s.all)), slV strV s.list] := rfl
theorem refs_res {f : NamesA → NamesA → NamesA} {a b : NamesA} {S : Nat → Prop} : V.refs S (resS f a b) := by simp [resS, refs_tup, refsL_cons, refsL_nil, aggV, refs_agg, refsL_data, refs_d]

theorem fn33 (a b : NamesA) (f : NamesA → NamesA → NamesA) (F : FuncId) (hF : Cn Try.prog F [aggV a.enc, aggV b.enc] (aggV (f a b).enc)) (hlen : (f a b).list.length ≤ 4000000) :
    Cn Try.prog 33 [aggV a.enc, aggV b.enc, .fn F []] (resS f a b) := by
  refine Cn.of mixed Try.func33 rfl Try.call33 Try.ntmps33 Try.results33 (by simp) (by kernel_rfl) refs_res fun hfit => ?_
  simp only [go_sem, Nat.reduceEqDiff, Nat.reduceAdd, Nat.reduceSub, Nat.reduceMul, Nat.reduceLeDiff, Nat.reduceLT, Nat.reduceBEq, reduceIte, ea]
  refine callK_pure (fn8 a) (by simp only [go_sem, Nat.reduceEqDiff, Nat.reduceAdd, Nat.reduceSub, Nat.reduceMul, Nat.reduceLeDiff, Nat.reduceLT, Nat.reduceBEq, reduceIte, ea]) ?_
  simp only [go_sem, Nat.reduceEqDiff, Nat.reduceAdd, Nat.reduceSub, Nat.reduceMul, Nat.reduceLeDiff, Nat.reduceLT, Nat.reduceBEq, reduceIte, ea]
  refine splitK_intro (fun h1 => ?_) (fun h1 => ?_)
  · simp only [go_sem, Nat.reduceEqDiff, Nat.reduceAdd, Nat.reduceSub, Nat.reduceMul, Nat.reduceLeDiff, Nat.reduceLT, Nat.reduceBEq, reduceIte, h1, ea]
    rw [resS_no fun h => by rw [pB_true.2 h.1] at h1; cases h1]
    exact .tupL ⟨.aggL ⟨.same _, .nil, trivial⟩, .same _, trivial⟩
  have v1 : ValidL a.list := pB_true.1 (by simpa using h1)
  simp only [go_sem, Nat.reduceEqDiff, Nat.reduceAdd, Nat.reduceSub, Nat.reduceMul, Nat.reduceLeDiff, Nat.reduceLT, Nat.reduceBEq, reduceIte, h1, ea]
  refine callK_pure (fn8 b) (by simp only [go_sem, Nat.reduceEqDiff, Nat.reduceAdd, Nat.reduceSub, Nat.reduceMul, Nat.reduceLeDiff, Nat.reduceLT, Nat.reduceBEq, reduceIte, ea]) ?_
  simp only [go_sem, Nat.reduceEqDiff, Nat.reduceAdd, Nat.reduceSub, Nat.reduceMul, Nat.reduceLeDiff, Nat.reduceLT, Nat.reduceBEq, reduceIte, h1, ea]
  refine splitK_intro (fun h2 => ?_) (fun h2 => ?_)
  · simp only [go_sem, Nat.reduceEqDiff, Nat.reduceAdd, Nat.reduceSub, Nat.reduceMul, Nat.reduceLeDiff, Nat.reduceLT, Nat.reduceBEq, reduceIte, h1, h2, ea]
    rw [resS_no fun h => by rw [pB_true.2 h.2] at h2; cases h2]
    exact .tupL ⟨.aggL ⟨.same _, .nil, trivial⟩, .same _, trivial⟩
  have v2 : ValidL b.list := pB_true.1 (by simpa using h2)
  simp only [go_sem, Nat.reduceEqDiff, Nat.reduceAdd, Nat.reduceSub, Nat.reduceMul, Nat.reduceLeDiff, Nat.reduceLT, Nat.reduceBEq, reduceIte, h1, h2, ea]
  refine callK_pure hF (by simp only [go_sem, Nat.reduceEqDiff, Nat.reduceAdd, Nat.reduceSub, Nat.reduceMul, Nat.reduceLeDiff, Nat.reduceLT, Nat.reduceBEq, reduceIte, ea]) ?_
  simp only [go_sem, Nat.reduceEqDiff, Nat.reduceAdd, Nat.reduceSub, Nat.reduceMul, Nat.reduceLeDiff, Nat.reduceLT, Nat.reduceBEq, reduceIte, h1, h2, ea]
  refine app_data rfl (by simp) (by simp; omega) ?_
  simp only [go_sem, Nat.reduceEqDiff, Nat.reduceAdd, Nat.reduceSub, Nat.reduceMul, Nat.reduceLeDiff, Nat.reduceLT, Nat.reduceBEq, reduceIte, ea]
  rw [resS_ok ⟨v1, v2⟩]
  exact .same _

theorem fn12 (a b : NamesA) (hlen : a.list.length + b.list.length ≤ 900000) (hl : (unionS a b).list.length ≤ 4000000) : Cn Try.prog 12 [aggV a.enc, aggV b.enc] (resS unionS a b) := by
  refine Cn.of mixed Try.func12 rfl Try.call12 Try.ntmps12 Try.results12 (by simp) (by kernel_rfl) refs_res fun hfit => ?_
  have h := fn33 a b unionS 34 (fn34 a b hlen) hl
  by_cases hok : OkS a b
  · rw [resS_ok hok] at h ⊢
    simp only [go_sem, Nat.reduceEqDiff, Nat.reduceAdd, Nat.reduceSub, Nat.reduceMul, Nat.reduceLeDiff, Nat.reduceLT, Nat.reduceBEq, reduceIte, ea]
    refine callK_pure h (by simp only [go_sem, Nat.reduceEqDiff, Nat.reduceAdd, Nat.reduceSub, Nat.reduceMul, Nat.reduceLeDiff, Nat.reduceLT, Nat.reduceBEq, reduceIte, ea]) ?_
    simp only [go_sem, Nat.reduceEqDiff, Nat.reduceAdd, Nat.reduceSub, Nat.reduceMul, Nat.reduceLeDiff, Nat.reduceLT, Nat.reduceBEq, reduceIte, ea]
    exact .same _
  · rw [resS_no hok] at h ⊢
    simp only [go_sem, Nat.reduceEqDiff, Nat.reduceAdd, Nat.reduceSub, Nat.reduceMul, Nat.reduceLeDiff, Nat.reduceLT, Nat.reduceBEq, reduceIte, ea]
    refine callK_pure h (by simp only [go_sem, Nat.reduceEqDiff, Nat.reduceAdd, Nat.reduceSub, Nat.reduceMul, Nat.reduceLeDiff, Nat.reduceLT, Nat.reduceBEq, reduceIte, ea]) ?_
    simp only [go_sem, Nat.reduceEqDiff, Nat.reduceAdd, Nat.reduceSub, Nat.reduceMul, Nat.reduceLeDiff, Nat.reduceLT, Nat.reduceBEq, reduceIte, ea]
    exact .same _

theorem fn15 (a b : NamesA) (hlen : a.list.length + b.list.length ≤ 900000) (hl : (meetS a b).list.length ≤ 4000000) : Cn Try.prog 15 [aggV a.enc, aggV b.enc] (resS meetS a b) := by
  refine Cn.of mixed Try.func15 rfl Try.call15 Try.ntmps15 Try.results15 (by simp) (by kernel_rfl) refs_res fun hfit => ?_
  have h := fn33 a b meetS 36 (fn36 a b hlen) hl
  by_cases hok : OkS a b
  · rw [resS_ok hok] at h ⊢
    simp only [go_sem, Nat.reduceEqDiff, Nat.reduceAdd, Nat.reduceSub, Nat.reduceMul, Nat.reduceLeDiff, Nat.reduceLT, Nat.reduceBEq, reduceIte, ea]
    refine callK_pure h (by simp only [go_sem, Nat.reduceEqDiff, Nat.reduceAdd, Nat.reduceSub, Nat.reduceMul, Nat.reduceLeDiff, Nat.reduceLT, Nat.reduceBEq, reduceIte, ea]) ?_
    simp only [go_sem, Nat.reduceEqDiff, Nat.reduceAdd, Nat.reduceSub, Nat.reduceMul, Nat.reduceLeDiff, Nat.reduceLT, Nat.reduceBEq, reduceIte, ea]
    exact .same _
  · rw [resS_no hok] at h ⊢
    simp only [go_sem, Nat.reduceEqDiff, Nat.reduceAdd, Nat.reduceSub, Nat.reduceMul, Nat.reduceLeDiff, Nat.reduceLT, Nat.reduceBEq, reduceIte, ea]
    refine callK_pure h (by simp only [go_sem, Nat.reduceEqDiff, Nat.reduceAdd, Nat.reduceSub, Nat.reduceMul, Nat.reduceLeDiff, Nat.reduceLT, Nat.reduceBEq, reduceIte, ea]) ?_
    simp only [go_sem, Nat.reduceEqDiff, Nat.reduceAdd, Nat.reduceSub, Nat.reduceMul, Nat.reduceLeDiff, Nat.reduceLT, Nat.reduceBEq, reduceIte, ea]
    exact .same _

theorem fn17 (a b : NamesA) (hlen : a.list.length + b.list.length ≤ 900000) (hl : (minusS a b).list.length ≤ 4000000) : Cn Try.prog 17 [aggV a.enc, aggV b.enc] (resS minusS a b) := by
  refine Cn.of mixed Try.func17 rfl Try.call17 Try.ntmps17 Try.results17 (by simp) (by kernel_rfl) refs_res fun hfit => ?_
  have h := fn33 a b minusS 38 (fn38 a b hlen) hl
  by_cases hok : OkS a b
  · rw [resS_ok hok] at h ⊢
    simp only [go_sem, Nat.reduceEqDiff, Nat.reduceAdd, Nat.reduceSub, Nat.reduceMul, Nat.reduceLeDiff, Nat.reduceLT, Nat.reduceBEq, reduceIte, ea]
    refine callK_pure h (by simp only [go_sem, Nat.reduceEqDiff, Nat.reduceAdd, Nat.reduceSub, Nat.reduceMul, Nat.reduceLeDiff, Nat.reduceLT, Nat.reduceBEq, reduceIte, ea]) ?_
    simp only [go_sem, Nat.reduceEqDiff, Nat.reduceAdd, Nat.reduceSub, Nat.reduceMul, Nat.reduceLeDiff, Nat.reduceLT, Nat.reduceBEq, reduceIte, ea]
    exact .same _
  · rw [resS_no hok] at h ⊢
    simp only [go_sem, Nat.reduceEqDiff, Nat.reduceAdd, Nat.reduceSub, Nat.reduceMul, Nat.reduceLeDiff, Nat.reduceLT, Nat.reduceBEq, reduceIte, ea]
    refine callK_pure h (by simp only [go_sem, Nat.reduceEqDiff, Nat.reduceAdd, Nat.reduceSub, Nat.reduceMul, Nat.reduceLeDiff, Nat.reduceLT, Nat.reduceBEq, reduceIte, ea]) ?_
    simp only [go_sem, Nat.reduceEqDiff, Nat.reduceAdd, Nat.reduceSub, Nat.reduceMul, Nat.reduceLeDiff, Nat.reduceLT, Nat.reduceBEq, reduceIte, ea]
    exact .same _

theorem fn13 (a b : NamesA) (hlen : a.list.length + b.list.length ≤ 900000) : Cn Try.prog 13 [aggV a.enc, aggV b.enc] (resS joinR a b) := by
  refine Cn.of mixed Try.func13 rfl Try.call13 Try.ntmps13 Try.results13 (by simp) (by kernel_rfl) refs_res fun hfit => ?_
  simp only [go_sem, Nat.reduceEqDiff, Nat.reduceAdd, Nat.reduceSub, Nat.reduceMul, Nat.reduceLeDiff, Nat.reduceLT, Nat.reduceBEq, reduceIte, ea]
  refine callK_pure (fn9 a) (by simp only [go_sem, Nat.reduceEqDiff, Nat.reduceAdd, Nat.reduceSub, Nat.reduceMul, Nat.reduceLeDiff, Nat.reduceLT, Nat.reduceBEq, reduceIte, ea]) ?_
  simp only [go_sem, Nat.reduceEqDiff, Nat.reduceAdd, Nat.reduceSub, Nat.reduceMul, Nat.reduceLeDiff, Nat.reduceLT, Nat.reduceBEq, reduceIte, ea]
  refine splitK_intro (fun h1 => ?_) (fun h1 => ?_)
  · simp only [go_sem, Nat.reduceEqDiff, Nat.reduceAdd, Nat.reduceSub, Nat.reduceMul, Nat.reduceLeDiff, Nat.reduceLT, Nat.reduceBEq, reduceIte, h1, ea]
    rw [resS_no fun h => by rw [pB_true.2 h.1] at h1; cases h1]
    exact .tupL ⟨.aggL ⟨.same _, .nil, trivial⟩, .same _, trivial⟩
  have v1 : ValidL a.list := pB_true.1 (by simpa using h1)
  simp only [go_sem, Nat.reduceEqDiff, Nat.reduceAdd, Nat.reduceSub, Nat.reduceMul, Nat.reduceLeDiff, Nat.reduceLT, Nat.reduceBEq, reduceIte, h1, ea]
  refine callK_pure (fn9 b) (by simp only [go_sem, Nat.reduceEqDiff, Nat.reduceAdd, Nat.reduceSub, Nat.reduceMul, Nat.reduceLeDiff, Nat.reduceLT, Nat.reduceBEq, reduceIte, ea]) ?_
  simp only [go_sem, Nat.reduceEqDiff, Nat.reduceAdd, Nat.reduceSub, Nat.reduceMul, Nat.reduceLeDiff, Nat.reduceLT, Nat.reduceBEq, reduceIte, h1, ea]
  refine splitK_intro (fun h2 => ?_) (fun h2 => ?_)
  · simp only [go_sem, Nat.reduceEqDiff, Nat.reduceAdd, Nat.reduceSub, Nat.reduceMul, Nat.reduceLeDiff, Nat.reduceLT, Nat.reduceBEq, reduceIte, h1, h2, ea]
    rw [resS_no fun h => by rw [pB_true.2 h.2] at h2; cases h2]
    exact .tupL ⟨.aggL ⟨.same _, .nil, trivial⟩, .same _, trivial⟩
  have v2 : ValidL b.list := pB_true.1 (by simpa using h2)
  simp only [go_sem, Nat.reduceEqDiff, Nat.reduceAdd, Nat.reduceSub, Nat.reduceMul, Nat.reduceLeDiff, Nat.reduceLT, Nat.reduceBEq, reduceIte, h1, h2, ea]
  refine callK_pure (fn35 a b hlen) (by simp only [go_sem, Nat.reduceEqDiff, Nat.reduceAdd, Nat.reduceSub, Nat.reduceMul, Nat.reduceLeDiff, Nat.reduceLT, Nat.reduceBEq, reduceIte, ea]) ?_
  simp only [go_sem, Nat.reduceEqDiff, Nat.reduceAdd, Nat.reduceSub, Nat.reduceMul, Nat.reduceLeDiff, Nat.reduceLT, Nat.reduceBEq, reduceIte, h1, h2, ea]
  rw [resS_ok ⟨v1, v2⟩]
  exact .same _

theorem fn16 (a b : NamesA) (hlen : a.list.length + b.list.length ≤ 900000) : Cn Try.prog 16 [aggV a.enc, aggV b.enc] (resS meetR a b) := by
  refine Cn.of mixed Try.func16 rfl Try.call16 Try.ntmps16 Try.results16 (by simp) (by kernel_rfl) refs_res fun hfit => ?_
  simp only [go_sem, Nat.reduceEqDiff, Nat.reduceAdd, Nat.reduceSub, Nat.reduceMul, Nat.reduceLeDiff, Nat.reduceLT, Nat.reduceBEq, reduceIte, ea]
  refine callK_pure (fn9 a) (by simp only [go_sem, Nat.reduceEqDiff, Nat.reduceAdd, Nat.reduceSub, Nat.reduceMul, Nat.reduceLeDiff, Nat.reduceLT, Nat.reduceBEq, reduceIte, ea]) ?_
  simp only [go_sem, Nat.reduceEqDiff, Nat.reduceAdd, Nat.reduceSub, Nat.reduceMul, Nat.reduceLeDiff, Nat.reduceLT, Nat.reduceBEq, reduceIte, ea]
  refine splitK_intro (fun h1 => ?_) (fun h1 => ?_)
  · simp only [go_sem, Nat.reduceEqDiff, Nat.reduceAdd, Nat.reduceSub, Nat.reduceMul, Nat.reduceLeDiff, Nat.reduceLT, Nat.reduceBEq, reduceIte, h1, ea]
    rw [resS_no fun h => by rw [pB_true.2 h.1] at h1; cases h1]
    exact .tupL ⟨.aggL ⟨.same _, .nil, trivial⟩, .same _, trivial⟩
  have v1 : ValidL a.list := pB_true.1 (by simpa using h1)
  simp only [go_sem, Nat.reduceEqDiff, Nat.reduceAdd, Nat.reduceSub, Nat.reduceMul, Nat.reduceLeDiff, Nat.reduceLT, Nat.reduceBEq, reduceIte, h1, ea]
  refine callK_pure (fn9 b) (by simp only [go_sem, Nat.reduceEqDiff, Nat.reduceAdd, Nat.reduceSub, Nat.reduceMul, Nat.reduceLeDiff, Nat.reduceLT, Nat.reduceBEq, reduceIte, ea]) ?_
  simp only [go_sem, Nat.reduceEqDiff, Nat.reduceAdd, Nat.reduceSub, Nat.reduceMul, Nat.reduceLeDiff, Nat.reduceLT, Nat.reduceBEq, reduceIte, h1, ea]
  refine splitK_intro (fun h2 => ?_) (fun h2 => ?_)
  · simp only [go_sem, Nat.reduceEqDiff, Nat.reduceAdd, Nat.reduceSub, Nat.reduceMul, Nat.reduceLeDiff, Nat.reduceLT, Nat.reduceBEq, reduceIte, h1, h2, ea]
    rw [resS_no fun h => by rw [pB_true.2 h.2] at h2; cases h2]
    exact .tupL ⟨.aggL ⟨.same _, .nil, trivial⟩, .same _, trivial⟩
  have v2 : ValidL b.list := pB_true.1 (by simpa using h2)
  simp only [go_sem, Nat.reduceEqDiff, Nat.reduceAdd, Nat.reduceSub, Nat.reduceMul, Nat.reduceLeDiff, Nat.reduceLT, Nat.reduceBEq, reduceIte, h1, h2, ea]
  refine callK_pure (fn37 a b hlen) (by simp only [go_sem, Nat.reduceEqDiff, Nat.reduceAdd, Nat.reduceSub, Nat.reduceMul, Nat.reduceLeDiff, Nat.reduceLT, Nat.reduceBEq, reduceIte, ea]) ?_
  simp only [go_sem, Nat.reduceEqDiff, Nat.reduceAdd, Nat.reduceSub, Nat.reduceMul, Nat.reduceLeDiff, Nat.reduceLT, Nat.reduceBEq, reduceIte, h1, h2, ea]
  rw [resS_ok ⟨v1, v2⟩]
  exact .same _

theorem fn18 (a b : NamesA) (hlen : a.list.length + b.list.length ≤ 900000) : Cn Try.prog 18 [aggV a.enc, aggV b.enc] (resS minusR a b) := by
  refine Cn.of mixed Try.func18 rfl Try.call18 Try.ntmps18 Try.results18 (by simp) (by kernel_rfl) refs_res fun hfit => ?_
  simp only [go_sem, Nat.reduceEqDiff, Nat.reduceAdd, Nat.reduceSub, Nat.reduceMul, Nat.reduceLeDiff, Nat.reduceLT, Nat.reduceBEq, reduceIte, ea]
  refine callK_pure (fn9 a) (by simp only [go_sem, Nat.reduceEqDiff, Nat.reduceAdd, Nat.reduceSub, Nat.reduceMul, Nat.reduceLeDiff, Nat.reduceLT, Nat.reduceBEq, reduceIte, ea]) ?_
  simp only [go_sem, Nat.reduceEqDiff, Nat.reduceAdd, Nat.reduceSub, Nat.reduceMul, Nat.reduceLeDiff, Nat.reduceLT, Nat.reduceBEq, reduceIte, ea]
  refine splitK_intro (fun h1 => ?_) (fun h1 => ?_)
  · simp only [go_sem, Nat.reduceEqDiff, Nat.reduceAdd, Nat.reduceSub, Nat.reduceMul, Nat.reduceLeDiff, Nat.reduceLT, Nat.reduceBEq, reduceIte, h1, ea]
    rw [resS_no fun h => by rw [pB_true.2 h.1] at h1; cases h1]
    exact .tupL ⟨.aggL ⟨.same _, .nil, trivial⟩, .same _, trivial⟩
  have v1 : ValidL a.list := pB_true.1 (by simpa using h1)
  simp only [go_sem, Nat.reduceEqDiff, Nat.reduceAdd, Nat.reduceSub, Nat.reduceMul, Nat.reduceLeDiff, Nat.reduceLT, Nat.reduceBEq, reduceIte, h1, ea]
  refine callK_pure (fn9 b) (by simp only [go_sem, Nat.reduceEqDiff, Nat.reduceAdd, Nat.reduceSub, Nat.reduceMul, Nat.reduceLeDiff, Nat.reduceLT, Nat.reduceBEq, reduceIte, ea]) ?_
  simp only [go_sem, Nat.reduceEqDiff, Nat.reduceAdd, Nat.reduceSub, Nat.reduceMul, Nat.reduceLeDiff, Nat.reduceLT, Nat.reduceBEq, reduceIte, h1, ea]
  refine splitK_intro (fun h2 => ?_) (fun h2 => ?_)
  · simp only [go_sem, Nat.reduceEqDiff, Nat.reduceAdd, Nat.reduceSub, Nat.reduceMul, Nat.reduceLeDiff, Nat.reduceLT, Nat.reduceBEq, reduceIte, h1, h2, ea]
    rw [resS_no fun h => by rw [pB_true.2 h.2] at h2; cases h2]
    exact .tupL ⟨.aggL ⟨.same _, .nil, trivial⟩, .same _, trivial⟩
  have v2 : ValidL b.list := pB_true.1 (by simpa using h2)
  simp only [go_sem, Nat.reduceEqDiff, Nat.reduceAdd, Nat.reduceSub, Nat.reduceMul, Nat.reduceLeDiff, Nat.reduceLT, Nat.reduceBEq, reduceIte, h1, h2, ea]
  refine callK_pure (fn39 a b hlen) (by simp only [go_sem, Nat.reduceEqDiff, Nat.reduceAdd, Nat.reduceSub, Nat.reduceMul, Nat.reduceLeDiff, Nat.reduceLT, Nat.reduceBEq, reduceIte, ea]) ?_
  simp only [go_sem, Nat.reduceEqDiff, Nat.reduceAdd, Nat.reduceSub, Nat.reduceMul, Nat.reduceLeDiff, Nat.reduceLT, Nat.reduceBEq, reduceIte, h1, h2, ea]
  rw [resS_ok ⟨v1, v2⟩]
  exact .same _

/-- No element. -/
def EmptyS (s : NamesA) : Prop := s.all = false ∧ s.list.length = 0
theorem fn25 (s : NamesA) : Cn Try.prog 25 [aggV s.enc] (boolV (pB (EmptyS s))) := by
  refine Cn.of mixed Try.func25 rfl Try.call25 Try.ntmps25 Try.results25 (by simp) (by kernel_rfl) trivial fun hfit => ?_
  simp only [go_sem, Nat.reduceEqDiff, Nat.reduceAdd, Nat.reduceSub, Nat.reduceMul, Nat.reduceLeDiff, Nat.reduceLT, Nat.reduceBEq, reduceIte, ea]
  refine splitK_intro (fun h1 => ?_) (fun h1 => ?_)
  · simp only [go_sem, Nat.reduceEqDiff, Nat.reduceAdd, Nat.reduceSub, Nat.reduceMul, Nat.reduceLeDiff, Nat.reduceLT, Nat.reduceBEq, reduceIte, h1, ea]
    have h1' : s.all = false := by simpa using h1
    exact sealP (by simp [EmptyS, h1'])
  · simp only [go_sem, Nat.reduceEqDiff, Nat.reduceAdd, Nat.reduceSub, Nat.reduceMul, Nat.reduceLeDiff, Nat.reduceLT, Nat.reduceBEq, reduceIte, h1, ea]
    have h1' : s.all = true := by simpa using h1
    exact noP fun h => by rw [h.1] at h1'; cases h1'

theorem fn14 (a b : NamesA) : Cn Try.prog 14 [aggV a.enc, aggV b.enc] (boolV (pB (a = b))) := by
  obtain ⟨al, xs⟩ := a
  obtain ⟨bl, ys⟩ := b
  refine Cn.of mixed Try.func14 rfl Try.call14 Try.ntmps14 Try.results14 (by simp) (by kernel_rfl) trivial fun hfit => ?_
  have hm : xs.length ≤ 9223372036854775807 := fit_sl (fitA_cons (fitA_cons (fitA_agg hfit).1).2).1
  simp only [go_sem, Nat.reduceEqDiff, Nat.reduceAdd, Nat.reduceSub, Nat.reduceMul, Nat.reduceLeDiff, Nat.reduceLT, Nat.reduceBEq, reduceIte, ea]
  refine splitK_intro (fun h1 => ?_) (fun h1 => ?_)
  · simp only [go_sem, Nat.reduceEqDiff, Nat.reduceAdd, Nat.reduceSub, Nat.reduceMul, Nat.reduceLeDiff, Nat.reduceLT, Nat.reduceBEq, reduceIte, h1, ea]
    exact noP fun h => by rw [NamesA.mk.injEq] at h; rw [h.1] at h1; simp at h1
  have e1 : al = bl := by simpa using h1
  simp only [go_sem, Nat.reduceEqDiff, Nat.reduceAdd, Nat.reduceSub, Nat.reduceMul, Nat.reduceLeDiff, Nat.reduceLT, Nat.reduceBEq, reduceIte, h1, ea]
  refine splitK_intro (fun h2 => ?_) (fun h2 => ?_)
  · simp only [go_sem, Nat.reduceEqDiff, Nat.reduceAdd, Nat.reduceSub, Nat.reduceMul, Nat.reduceLeDiff, Nat.reduceLT, Nat.reduceBEq, reduceIte, h1, h2, ea]
    exact noP fun h => by rw [NamesA.mk.injEq] at h; exact len_ne h2 (by rw [h.2])
  have hl := len_eq h2
  simp only [go_sem, Nat.reduceEqDiff, Nat.reduceAdd, Nat.reduceSub, Nat.reduceMul, Nat.reduceLeDiff, Nat.reduceLT, Nat.reduceBEq, reduceIte, h1, h2, ea]
  refine AW.roundsR mixed (by kernel_rfl) (fun k : Nat => [(2, .ptr 0 2 0 0), (3, .ptr 1 2 0 0), (5, intV k)]) (fun _ => [some ⟨2, [[.d (.val (.bool al)), slV strV xs]]⟩, some ⟨2, [[.d (.val (.bool bl)), slV strV ys]]⟩]) (fun k => k ≤ xs.length ∧ xs.take k = ys.take k) (fun k => xs.length - k) 0 [0, 1] ⟨Nat.zero_le _, rfl⟩ ?_ ?_
  · simp only [go_sem, Nat.reduceEqDiff, Nat.reduceAdd, Nat.reduceSub, Nat.reduceMul, Nat.reduceLeDiff, Nat.reduceLT, Nat.reduceBEq, reduceIte]; try simp
  rintro k ⟨hk, ht⟩
  simp only [go_sem, Nat.reduceEqDiff, Nat.reduceAdd, Nat.reduceSub, Nat.reduceMul, Nat.reduceLeDiff, Nat.reduceLT, Nat.reduceBEq, reduceIte]
  refine splitK_intro (fun h => ?_) (fun h => ?_)
  · simp only [decide_eq_true_eq, Int.ofNat_lt] at h
    obtain ⟨x, hx⟩ := get_some h
    obtain ⟨y, hy⟩ := get_some (hl ▸ h)
    simp only [go_sem, Nat.reduceEqDiff, Nat.reduceAdd, Nat.reduceSub, Nat.reduceMul, Nat.reduceLeDiff, Nat.reduceLT, Nat.reduceBEq, reduceIte, hx, hy]
    refine splitK_intro (fun e => ?_) (fun e => ?_)
    · simp only [go_sem, Nat.reduceEqDiff, Nat.reduceAdd, Nat.reduceSub, Nat.reduceMul, Nat.reduceLeDiff, Nat.reduceLT, Nat.reduceBEq, reduceIte, e]
      exact noP fun h => by
        rw [NamesA.mk.injEq] at h
        exact take_ne hx hy (fun h => by rw [h] at e; simp at e) h.2
    · simp only [go_sem, Nat.reduceEqDiff, Nat.reduceAdd, Nat.reduceSub, Nat.reduceMul, Nat.reduceLeDiff, Nat.reduceLT, Nat.reduceBEq, reduceIte, e]
      refine RoundQ.mk (k + 1) [0, 1] ⟨by omega, take_succ_eq hx hy ht (bytes_eq.1 (by simpa using e))⟩ (by omega) ?_
      simp only [go_sem, Nat.reduceEqDiff, Nat.reduceAdd, Nat.reduceSub, Nat.reduceMul, Nat.reduceLeDiff, Nat.reduceLT, Nat.reduceBEq, reduceIte]
      rw [wrapN (by omega)]
  · simp only [go_sem, Nat.reduceEqDiff, Nat.reduceAdd, Nat.reduceSub, Nat.reduceMul, Nat.reduceLeDiff, Nat.reduceLT, Nat.reduceBEq, reduceIte, h]
    exact yesP (by rw [e1, eq_of_take hl (by simpa using h) ht])

noncomputable abbrev disS (f : NamesA → NamesA → NamesA) (a b : NamesA) : V := .tup [boolV (pB (OkS a b ∧ EmptyS (f a b))), intV (errS a b)]
theorem disS_no {f : NamesA → NamesA → NamesA} {a b : NamesA} (h : ¬ OkS a b) : disS f a b = .tup [boolV false, intV 3] := by
  simp [disS, errS, pB_false.2 h, pB_false.2 (fun x : OkS a b ∧ EmptyS (f a b) => h x.1)]
theorem disS_ok {f : NamesA → NamesA → NamesA} {a b : NamesA} (h : OkS a b) : disS f a b = .tup [boolV (pB (EmptyS (f a b))), intV 0] := by
  simp [disS, errS, pB_true.2 h, pB_iff (show (OkS a b ∧ EmptyS (f a b)) ↔ EmptyS (f a b) from ⟨And.right, fun x => ⟨h, x⟩⟩)]

theorem fn19 (a b : NamesA) (hlen : a.list.length + b.list.length ≤ 900000) : Cn Try.prog 19 [aggV a.enc, aggV b.enc] (disS meetS a b) := by
  refine Cn.of mixed Try.func19 rfl Try.call19 Try.ntmps19 Try.results19 (by simp) (by kernel_rfl) (by simp [disS, refs_tup, refsL_cons, refsL_nil, refs_d]) fun hfit => ?_
  simp only [go_sem, Nat.reduceEqDiff, Nat.reduceAdd, Nat.reduceSub, Nat.reduceMul, Nat.reduceLeDiff, Nat.reduceLT, Nat.reduceBEq, reduceIte, ea]
  refine callK_pure (fn8 a) (by simp only [go_sem, Nat.reduceEqDiff, Nat.reduceAdd, Nat.reduceSub, Nat.reduceMul, Nat.reduceLeDiff, Nat.reduceLT, Nat.reduceBEq, reduceIte, ea]) ?_
  simp only [go_sem, Nat.reduceEqDiff, Nat.reduceAdd, Nat.reduceSub, Nat.reduceMul, Nat.reduceLeDiff, Nat.reduceLT, Nat.reduceBEq, reduceIte, ea]
  refine splitK_intro (fun h1 => ?_) (fun h1 => ?_)
  · simp only [go_sem, Nat.reduceEqDiff, Nat.reduceAdd, Nat.reduceSub, Nat.reduceMul, Nat.reduceLeDiff, Nat.reduceLT, Nat.reduceBEq, reduceIte, h1, ea]
    rw [disS_no fun h => by rw [pB_true.2 h.1] at h1; cases h1]
    exact .same _
  have v1 : ValidL a.list := pB_true.1 (by simpa using h1)
  simp only [go_sem, Nat.reduceEqDiff, Nat.reduceAdd, Nat.reduceSub, Nat.reduceMul, Nat.reduceLeDiff, Nat.reduceLT, Nat.reduceBEq, reduceIte, h1, ea]
  refine callK_pure (fn8 b) (by simp only [go_sem, Nat.reduceEqDiff, Nat.reduceAdd, Nat.reduceSub, Nat.reduceMul, Nat.reduceLeDiff, Nat.reduceLT, Nat.reduceBEq, reduceIte, ea]) ?_
  simp only [go_sem, Nat.reduceEqDiff, Nat.reduceAdd, Nat.reduceSub, Nat.reduceMul, Nat.reduceLeDiff, Nat.reduceLT, Nat.reduceBEq, reduceIte, h1, ea]
  refine splitK_intro (fun h2 => ?_) (fun h2 => ?_)
  · simp only [go_sem, Nat.reduceEqDiff, Nat.reduceAdd, Nat.reduceSub, Nat.reduceMul, Nat.reduceLeDiff, Nat.reduceLT, Nat.reduceBEq, reduceIte, h1, h2, ea]
    rw [disS_no fun h => by rw [pB_true.2 h.2] at h2; cases h2]
    exact .same _
  have v2 : ValidL b.list := pB_true.1 (by simpa using h2)
  rw [disS_ok ⟨v1, v2⟩]
  simp only [go_sem, Nat.reduceEqDiff, Nat.reduceAdd, Nat.reduceSub, Nat.reduceMul, Nat.reduceLeDiff, Nat.reduceLT, Nat.reduceBEq, reduceIte, h1, h2, ea]
  refine callK_pure (fn36 a b hlen) (by simp only [go_sem, Nat.reduceEqDiff, Nat.reduceAdd, Nat.reduceSub, Nat.reduceMul, Nat.reduceLeDiff, Nat.reduceLT, Nat.reduceBEq, reduceIte, ea]) ?_
  simp only [go_sem, Nat.reduceEqDiff, Nat.reduceAdd, Nat.reduceSub, Nat.reduceMul, Nat.reduceLeDiff, Nat.reduceLT, Nat.reduceBEq, reduceIte, h1, h2, ea]
  refine splitK_intro (fun h3 => ?_) (fun h3 => ?_)
  · have h3' : (meetS a b).all = false := by simpa using h3
    simp only [go_sem, Nat.reduceEqDiff, Nat.reduceAdd, Nat.reduceSub, Nat.reduceMul, Nat.reduceLeDiff, Nat.reduceLT, Nat.reduceBEq, reduceIte, h3, ea]
    exact .tupL ⟨sealP (by simp [EmptyS, h3']), .same _, trivial⟩
  · have h3' : (meetS a b).all = true := by simpa using h3
    simp only [go_sem, Nat.reduceEqDiff, Nat.reduceAdd, Nat.reduceSub, Nat.reduceMul, Nat.reduceLeDiff, Nat.reduceLT, Nat.reduceBEq, reduceIte, h3, ea]
    exact .tupL ⟨noP (by simp [EmptyS, h3']), .same _, trivial⟩

theorem fn20 (a b : NamesA) (hlen : a.list.length + b.list.length ≤ 900000) : Cn Try.prog 20 [aggV a.enc, aggV b.enc] (disS meetR a b) := by
  refine Cn.of mixed Try.func20 rfl Try.call20 Try.ntmps20 Try.results20 (by simp) (by kernel_rfl) (by simp [disS, refs_tup, refsL_cons, refsL_nil, refs_d]) fun hfit => ?_
  simp only [go_sem, Nat.reduceEqDiff, Nat.reduceAdd, Nat.reduceSub, Nat.reduceMul, Nat.reduceLeDiff, Nat.reduceLT, Nat.reduceBEq, reduceIte, ea]
  refine callK_pure (fn9 a) (by simp only [go_sem, Nat.reduceEqDiff, Nat.reduceAdd, Nat.reduceSub, Nat.reduceMul, Nat.reduceLeDiff, Nat.reduceLT, Nat.reduceBEq, reduceIte, ea]) ?_
  simp only [go_sem, Nat.reduceEqDiff, Nat.reduceAdd, Nat.reduceSub, Nat.reduceMul, Nat.reduceLeDiff, Nat.reduceLT, Nat.reduceBEq, reduceIte, ea]
  refine splitK_intro (fun h1 => ?_) (fun h1 => ?_)
  · simp only [go_sem, Nat.reduceEqDiff, Nat.reduceAdd, Nat.reduceSub, Nat.reduceMul, Nat.reduceLeDiff, Nat.reduceLT, Nat.reduceBEq, reduceIte, h1, ea]
    rw [disS_no fun h => by rw [pB_true.2 h.1] at h1; cases h1]
    exact .same _
  have v1 : ValidL a.list := pB_true.1 (by simpa using h1)
  simp only [go_sem, Nat.reduceEqDiff, Nat.reduceAdd, Nat.reduceSub, Nat.reduceMul, Nat.reduceLeDiff, Nat.reduceLT, Nat.reduceBEq, reduceIte, h1, ea]
  refine callK_pure (fn9 b) (by simp only [go_sem, Nat.reduceEqDiff, Nat.reduceAdd, Nat.reduceSub, Nat.reduceMul, Nat.reduceLeDiff, Nat.reduceLT, Nat.reduceBEq, reduceIte, ea]) ?_
  simp only [go_sem, Nat.reduceEqDiff, Nat.reduceAdd, Nat.reduceSub, Nat.reduceMul, Nat.reduceLeDiff, Nat.reduceLT, Nat.reduceBEq, reduceIte, h1, ea]
  refine splitK_intro (fun h2 => ?_) (fun h2 => ?_)
  · simp only [go_sem, Nat.reduceEqDiff, Nat.reduceAdd, Nat.reduceSub, Nat.reduceMul, Nat.reduceLeDiff, Nat.reduceLT, Nat.reduceBEq, reduceIte, h1, h2, ea]
    rw [disS_no fun h => by rw [pB_true.2 h.2] at h2; cases h2]
    exact .same _
  have v2 : ValidL b.list := pB_true.1 (by simpa using h2)
  rw [disS_ok ⟨v1, v2⟩]
  simp only [go_sem, Nat.reduceEqDiff, Nat.reduceAdd, Nat.reduceSub, Nat.reduceMul, Nat.reduceLeDiff, Nat.reduceLT, Nat.reduceBEq, reduceIte, h1, h2, ea]
  refine callK_pure (fn37 a b hlen) (by simp only [go_sem, Nat.reduceEqDiff, Nat.reduceAdd, Nat.reduceSub, Nat.reduceMul, Nat.reduceLeDiff, Nat.reduceLT, Nat.reduceBEq, reduceIte, ea]) ?_
  simp only [go_sem, Nat.reduceEqDiff, Nat.reduceAdd, Nat.reduceSub, Nat.reduceMul, Nat.reduceLeDiff, Nat.reduceLT, Nat.reduceBEq, reduceIte, h1, h2, ea]
  refine callK_pure (fn25 (meetR a b)) (by simp only [go_sem, Nat.reduceEqDiff, Nat.reduceAdd, Nat.reduceSub, Nat.reduceMul, Nat.reduceLeDiff, Nat.reduceLT, Nat.reduceBEq, reduceIte, ea]) ?_
  simp only [go_sem, Nat.reduceEqDiff, Nat.reduceAdd, Nat.reduceSub, Nat.reduceMul, Nat.reduceLeDiff, Nat.reduceLT, Nat.reduceBEq, reduceIte, h1, h2, ea]
  exact .same _
end Go.Proofs.Ytcgphoghmgeecaa
