/- Part of the proof of a law: contracts of the functions that the law reaches, or plain laws of them, out of the abstract layer (the texts YtcgphoghmgeecaaIso..). No condition. -/
import Derived.Test.YtcgphoghmgeecaaQa
namespace Go.Proofs.Ytcgphoghmgeecaa
open Go Go.Iso Go.Proofs
set_option linter.unusedSimpArgs false
set_option linter.unusedVariables false
set_option maxRecDepth 100000
set_option maxHeartbeats 1000000

theorem fn50 (s : ByteArray) : Cn Try.prog 50 [.d (.val (.string s))] (boolV (pB (NameS s))) := by
  refine Cn.of mixed Try.func50 rfl Try.call50 Try.ntmps50 Try.results50 (by simp) (by kernel_rfl) trivial fun _ => ?_
  simp only [go_sem, Nat.reduceEqDiff, Nat.reduceAdd, Nat.reduceSub, Nat.reduceMul, Nat.reduceLeDiff, Nat.reduceLT, Nat.reduceBEq, reduceIte]
  refine splitK_intro (fun h1 => ?_) (fun h1 => ?_)
  · simp only [go_sem, Nat.reduceEqDiff, Nat.reduceAdd, Nat.reduceSub, Nat.reduceMul, Nat.reduceLeDiff, Nat.reduceLT, Nat.reduceBEq, reduceIte, h1]
    exact noP fun h => h.1 (by simpa using h1)
  simp only [go_sem, Nat.reduceEqDiff, Nat.reduceAdd, Nat.reduceSub, Nat.reduceMul, Nat.reduceLeDiff, Nat.reduceLT, Nat.reduceBEq, reduceIte, h1]
  refine splitK_intro (fun h2 => ?_) (fun h2 => ?_)
  · simp only [go_sem, Nat.reduceEqDiff, Nat.reduceAdd, Nat.reduceSub, Nat.reduceMul, Nat.reduceLeDiff, Nat.reduceLT, Nat.reduceBEq, reduceIte, h1, h2]
    exact noP fun h => by
      have h3 : s.size ≤ 12 := h.2.1
      have h4 := of_decide_eq_true h2
      omega
  have h1' := beq_eq_false_iff_ne.1 h1
  have hpos : 0 < s.size := by omega
  have hsz : s.size ≤ 12 := by have := of_decide_eq_false h2; omega
  simp only [go_sem, Nat.reduceEqDiff, Nat.reduceAdd, Nat.reduceSub, Nat.reduceMul, Nat.reduceLeDiff, Nat.reduceLT, Nat.reduceBEq, reduceIte, h1, h2]
  refine splitK_intro (fun e1 => ?_) (fun e1 => ?_)
  · simp only [go_sem, Nat.reduceEqDiff, Nat.reduceAdd, Nat.reduceSub, Nat.reduceMul, Nat.reduceLeDiff, Nat.reduceLT, Nat.reduceBEq, reduceIte, e1]
    exact noP fun h => h.2.2.2.2.1 (by simpa using e1)
  simp only [go_sem, Nat.reduceEqDiff, Nat.reduceAdd, Nat.reduceSub, Nat.reduceMul, Nat.reduceLeDiff, Nat.reduceLT, Nat.reduceBEq, reduceIte, e1]
  refine splitK_intro (fun e2 => ?_) (fun e2 => ?_)
  · simp only [go_sem, Nat.reduceEqDiff, Nat.reduceAdd, Nat.reduceSub, Nat.reduceMul, Nat.reduceLeDiff, Nat.reduceLT, Nat.reduceBEq, reduceIte, e1, e2]
    exact noP fun h => h.2.2.2.2.2.1 (by simpa using e2)
  simp only [go_sem, Nat.reduceEqDiff, Nat.reduceAdd, Nat.reduceSub, Nat.reduceMul, Nat.reduceLeDiff, Nat.reduceLT, Nat.reduceBEq, reduceIte, e1, e2]
  refine splitK_intro (fun e3 => ?_) (fun e3 => ?_)
  · simp only [go_sem, Nat.reduceEqDiff, Nat.reduceAdd, Nat.reduceSub, Nat.reduceMul, Nat.reduceLeDiff, Nat.reduceLT, Nat.reduceBEq, reduceIte, e1, e2, e3]
    exact noP fun h => h.2.2.2.2.2.2.1 (by simpa using e3)
  simp only [go_sem, Nat.reduceEqDiff, Nat.reduceAdd, Nat.reduceSub, Nat.reduceMul, Nat.reduceLeDiff, Nat.reduceLT, Nat.reduceBEq, reduceIte, e1, e2, e3]
  refine splitK_intro (fun e4 => ?_) (fun e4 => ?_)
  · simp only [go_sem, Nat.reduceEqDiff, Nat.reduceAdd, Nat.reduceSub, Nat.reduceMul, Nat.reduceLeDiff, Nat.reduceLT, Nat.reduceBEq, reduceIte, e1, e2, e3, e4]
    exact noP fun h => h.2.2.2.2.2.2.2 (by simpa using e4)
  simp only [go_sem, Nat.reduceEqDiff, Nat.reduceAdd, Nat.reduceSub, Nat.reduceMul, Nat.reduceLeDiff, Nat.reduceLT, Nat.reduceBEq, reduceIte, e1, e2, e3, e4]
  refine AW.rounds mixed (by kernel_rfl) 0 (fun k : Nat => [(0, .d (.val (.string s))), (3, intV k)]) (fun _ => []) (fun k => k ≤ s.size ∧ ∀ j : Nat, j < k → ∀ c, s[j]? = some c → letterB c = true ∨ (j ≠ 0 ∧ digitB c = true)) (fun k => s.size - k) 0 (Nat.le_refl _) ⟨Nat.zero_le _, fun j hj => absurd hj (Nat.not_lt_zero j)⟩ (Nat.zero_le _) ?_ ?_ ?_
  · simp only [go_sem, Nat.reduceEqDiff, Nat.reduceAdd, Nat.reduceSub, Nat.reduceMul, Nat.reduceLeDiff, Nat.reduceLT, Nat.reduceBEq, reduceIte]; simp
  · simp only [go_sem, Nat.reduceEqDiff, Nat.reduceAdd, Nat.reduceSub, Nat.reduceMul, Nat.reduceLeDiff, Nat.reduceLT, Nat.reduceBEq, reduceIte]
  rintro k ⟨hk, ht⟩
  simp only [go_sem, Nat.reduceEqDiff, Nat.reduceAdd, Nat.reduceSub, Nat.reduceMul, Nat.reduceLeDiff, Nat.reduceLT, Nat.reduceBEq, reduceIte]
  refine splitK_intro (fun h => ?_) (fun h => ?_)
  · simp only [decide_eq_true_eq, Int.ofNat_lt] at h
    obtain ⟨c, hc⟩ := byte_some h
    simp only [go_sem, Nat.reduceEqDiff, Nat.reduceAdd, Nat.reduceSub, Nat.reduceMul, Nat.reduceLeDiff, Nat.reduceLT, Nat.reduceBEq, reduceIte, hc]
    refine callK_pure (fn70 c) (by simp only [go_sem, Nat.reduceEqDiff, Nat.reduceAdd, Nat.reduceSub, Nat.reduceMul, Nat.reduceLeDiff, Nat.reduceLT, Nat.reduceBEq, reduceIte]) ?_
    simp only [go_sem, Nat.reduceEqDiff, Nat.reduceAdd, Nat.reduceSub, Nat.reduceMul, Nat.reduceLeDiff, Nat.reduceLT, Nat.reduceBEq, reduceIte, hc]
    have ok : (letterB c = true ∨ (k ≠ 0 ∧ digitB c = true)) → ∀ j : Nat, j < k + 1 → ∀ c, s[j]? = some c → letterB c = true ∨ (j ≠ 0 ∧ digitB c = true) := fun hkc j hj c' hc' => by
      rcases Nat.lt_succ_iff_lt_or_eq.1 hj with hj | rfl
      · exact ht j hj c' hc'
      · rw [hc] at hc'; cases hc'; exact hkc
    refine splitK_intro (fun h4 => ?_) (fun h4 => ?_)
    · simp only [go_sem, Nat.reduceEqDiff, Nat.reduceAdd, Nat.reduceSub, Nat.reduceMul, Nat.reduceLeDiff, Nat.reduceLT, Nat.reduceBEq, reduceIte, h4, hc]
      refine splitK_intro (fun h7 => ?_) (fun h7 => ?_)
      · simp only [go_sem, Nat.reduceEqDiff, Nat.reduceAdd, Nat.reduceSub, Nat.reduceMul, Nat.reduceLeDiff, Nat.reduceLT, Nat.reduceBEq, reduceIte, h4, h7, hc]
        have : k = 0 := by simpa using h7
        subst this
        exact noP fun h => by have := h.2.2.1 c hc; simp_all
      have hk0 : k ≠ 0 := by simpa using h7
      simp only [go_sem, Nat.reduceEqDiff, Nat.reduceAdd, Nat.reduceSub, Nat.reduceMul, Nat.reduceLeDiff, Nat.reduceLT, Nat.reduceBEq, reduceIte, h4, h7, hc]
      refine splitK_intro (fun h5 => ?_) (fun h5 => ?_)
      · simp only [go_sem, Nat.reduceEqDiff, Nat.reduceAdd, Nat.reduceSub, Nat.reduceMul, Nat.reduceLeDiff, Nat.reduceLT, Nat.reduceBEq, reduceIte, h4, h5, h7, hc]
        exact noP fun h => by rcases h.2.2.2.1 k c hc with e | e <;> simp_all [digitB]
      simp only [go_sem, Nat.reduceEqDiff, Nat.reduceAdd, Nat.reduceSub, Nat.reduceMul, Nat.reduceLeDiff, Nat.reduceLT, Nat.reduceBEq, reduceIte, h4, h5, h7, hc]
      refine splitK_intro (fun h6 => ?_) (fun h6 => ?_)
      · simp only [go_sem, Nat.reduceEqDiff, Nat.reduceAdd, Nat.reduceSub, Nat.reduceMul, Nat.reduceLeDiff, Nat.reduceLT, Nat.reduceBEq, reduceIte, h4, h5, h6, h7, hc]
        exact noP fun h => by rcases h.2.2.2.1 k c hc with e | e <;> simp_all [digitB]
      simp only [go_sem, Nat.reduceEqDiff, Nat.reduceAdd, Nat.reduceSub, Nat.reduceMul, Nat.reduceLeDiff, Nat.reduceLT, Nat.reduceBEq, reduceIte, h4, h5, h6, h7, hc]
      exact ⟨k + 1, ⟨by omega, ok (.inr ⟨hk0, by simp_all [digitB]⟩)⟩, by omega, by rw [wrap_i64 (by omega) (by omega)]; rfl⟩
    · simp only [go_sem, Nat.reduceEqDiff, Nat.reduceAdd, Nat.reduceSub, Nat.reduceMul, Nat.reduceLeDiff, Nat.reduceLT, Nat.reduceBEq, reduceIte, h4, hc]
      exact ⟨k + 1, ⟨by omega, ok (.inl (by simpa using h4))⟩, by omega, by rw [wrap_i64 (by omega) (by omega)]; rfl⟩
  · simp only [go_sem, Nat.reduceEqDiff, Nat.reduceAdd, Nat.reduceSub, Nat.reduceMul, Nat.reduceLeDiff, Nat.reduceLT, Nat.reduceBEq, reduceIte, h]
    have all : ∀ j : Nat, ∀ c, s[j]? = some c → letterB c = true ∨ (j ≠ 0 ∧ digitB c = true) := fun j c hj => ht j (by
      have : j < s.size := (getElem?_eq_some_iff.1 hj).1
      have := of_decide_eq_false h; omega) c hj
    exact yesP ⟨by omega, hsz, fun c hc => (all 0 c hc).resolve_right (fun h => h.1 rfl), fun k c hc => (all k c hc).imp id And.right, by simpa using e1, by simpa using e2, by simpa using e3, by simpa using e4⟩

/-- A variable without its prime. -/
def unprime (s : ByteArray) : ByteArray := if 0 < s.size ∧ s[s.size - 1]? = some 39 then s.extract 0 (s.size - 1) else s
def VarS (s : ByteArray) : Prop := NameS (unprime s)
theorem cut_pre {s : ByteArray} {k : Nat} (h : k ≤ s.size) : cutStr s none (some (k : Int)) = some (s.extract 0 k) := by
  simp [cutStr, h]
theorem byte_int {c : UInt8} : ((c.toNat : Int) == 39) = true ↔ c = 39 := by
  rw [beq_iff_eq]
  constructor
  · intro h; apply UInt8.toNat_inj.1; have : c.toNat = 39 := by omega
    simpa using this
  · rintro rfl; rfl

theorem fn29 (s : ByteArray) : Cn Try.prog 29 [.d (.val (.string s))] (boolV (pB (VarS s))) := by
  refine Cn.of mixed Try.func29 rfl Try.call29 Try.ntmps29 Try.results29 (by simp) (by kernel_rfl) trivial fun hfit => ?_
  have hm := fit_str (fitA_cons hfit).1
  simp only [go_sem, Nat.reduceEqDiff, Nat.reduceAdd, Nat.reduceSub, Nat.reduceMul, Nat.reduceLeDiff, Nat.reduceLT, Nat.reduceBEq, reduceIte]
  refine splitK_intro (fun h1 => ?_) (fun h1 => ?_)
  · have hpos : 0 < s.size := by have := of_decide_eq_true h1; omega
    obtain ⟨c, hc⟩ := byte_some (show s.size - 1 < s.size by omega)
    have e1 : IntKind.wrap .i64 ((s.size : Int) - 1) = ((s.size - 1 : Nat) : Int) := by rw [wrap_i64 (by omega) (by omega)]; omega
    simp only [go_sem, Nat.reduceEqDiff, Nat.reduceAdd, Nat.reduceSub, Nat.reduceMul, Nat.reduceLeDiff, Nat.reduceLT, Nat.reduceBEq, reduceIte, h1, e1, hc]
    refine splitK_intro (fun h2 => ?_) (fun h2 => ?_)
    · have e2 : VarS s = NameS (s.extract 0 (s.size - 1)) := by rw [VarS, unprime, if_pos ⟨hpos, by rw [hc, byte_int.1 h2]⟩]
      simp only [go_sem, Nat.reduceEqDiff, Nat.reduceAdd, Nat.reduceSub, Nat.reduceMul, Nat.reduceLeDiff, Nat.reduceLT, Nat.reduceBEq, reduceIte, h1, h2, e1, hc, cut_pre (Nat.sub_le s.size 1)]
      refine callK_pure (fn49 (s.extract 0 (s.size - 1))) (by simp only [go_sem, Nat.reduceEqDiff, Nat.reduceAdd, Nat.reduceSub, Nat.reduceMul, Nat.reduceLeDiff, Nat.reduceLT, Nat.reduceBEq, reduceIte]) ?_
      simp only [go_sem, Nat.reduceEqDiff, Nat.reduceAdd, Nat.reduceSub, Nat.reduceMul, Nat.reduceLeDiff, Nat.reduceLT, Nat.reduceBEq, reduceIte]
      rw [e2]; exact .same _
    · have e2 : VarS s = NameS s := by rw [VarS, unprime, if_neg (fun h => by rw [hc] at h; have := Option.some.inj h.2; rw [byte_int.2 this] at h2; cases h2)]
      simp only [go_sem, Nat.reduceEqDiff, Nat.reduceAdd, Nat.reduceSub, Nat.reduceMul, Nat.reduceLeDiff, Nat.reduceLT, Nat.reduceBEq, reduceIte, h1, h2, e1, hc]
      refine callK_pure (fn49 s) (by simp only [go_sem, Nat.reduceEqDiff, Nat.reduceAdd, Nat.reduceSub, Nat.reduceMul, Nat.reduceLeDiff, Nat.reduceLT, Nat.reduceBEq, reduceIte]) ?_
      simp only [go_sem, Nat.reduceEqDiff, Nat.reduceAdd, Nat.reduceSub, Nat.reduceMul, Nat.reduceLeDiff, Nat.reduceLT, Nat.reduceBEq, reduceIte]
      rw [e2]; exact .same _
  · have e2 : VarS s = NameS s := by rw [VarS, unprime, if_neg (fun h => by have := of_decide_eq_false h1; omega)]
    simp only [go_sem, Nat.reduceEqDiff, Nat.reduceAdd, Nat.reduceSub, Nat.reduceMul, Nat.reduceLeDiff, Nat.reduceLT, Nat.reduceBEq, reduceIte, h1]
    refine callK_pure (fn49 s) (by simp only [go_sem, Nat.reduceEqDiff, Nat.reduceAdd, Nat.reduceSub, Nat.reduceMul, Nat.reduceLeDiff, Nat.reduceLT, Nat.reduceBEq, reduceIte]) ?_
    simp only [go_sem, Nat.reduceEqDiff, Nat.reduceAdd, Nat.reduceSub, Nat.reduceMul, Nat.reduceLeDiff, Nat.reduceLT, Nat.reduceBEq, reduceIte]
    rw [e2]; exact .same _
theorem fn30 (s : ByteArray) : Cn Try.prog 30 [.d (.val (.string s))] (boolV (pB (VarS s))) := by
  refine Cn.of mixed Try.func30 rfl Try.call30 Try.ntmps30 Try.results30 (by simp) (by kernel_rfl) trivial fun hfit => ?_
  have hm := fit_str (fitA_cons hfit).1
  simp only [go_sem, Nat.reduceEqDiff, Nat.reduceAdd, Nat.reduceSub, Nat.reduceMul, Nat.reduceLeDiff, Nat.reduceLT, Nat.reduceBEq, reduceIte]
  refine splitK_intro (fun h1 => ?_) (fun h1 => ?_)
  · have hpos : 0 < s.size := by have := of_decide_eq_true h1; omega
    obtain ⟨c, hc⟩ := byte_some (show s.size - 1 < s.size by omega)
    have e1 : IntKind.wrap .i64 ((s.size : Int) - 1) = ((s.size - 1 : Nat) : Int) := by rw [wrap_i64 (by omega) (by omega)]; omega
    simp only [go_sem, Nat.reduceEqDiff, Nat.reduceAdd, Nat.reduceSub, Nat.reduceMul, Nat.reduceLeDiff, Nat.reduceLT, Nat.reduceBEq, reduceIte, h1, e1, hc]
    refine splitK_intro (fun h2 => ?_) (fun h2 => ?_)
    · have e2 : VarS s = NameS (s.extract 0 (s.size - 1)) := by rw [VarS, unprime, if_pos ⟨hpos, by rw [hc, byte_int.1 h2]⟩]
      simp only [go_sem, Nat.reduceEqDiff, Nat.reduceAdd, Nat.reduceSub, Nat.reduceMul, Nat.reduceLeDiff, Nat.reduceLT, Nat.reduceBEq, reduceIte, h1, h2, e1, hc, cut_pre (Nat.sub_le s.size 1)]
      refine callK_pure (fn50 (s.extract 0 (s.size - 1))) (by simp only [go_sem, Nat.reduceEqDiff, Nat.reduceAdd, Nat.reduceSub, Nat.reduceMul, Nat.reduceLeDiff, Nat.reduceLT, Nat.reduceBEq, reduceIte]) ?_
      simp only [go_sem, Nat.reduceEqDiff, Nat.reduceAdd, Nat.reduceSub, Nat.reduceMul, Nat.reduceLeDiff, Nat.reduceLT, Nat.reduceBEq, reduceIte]
      rw [e2]; exact .same _
    · have e2 : VarS s = NameS s := by rw [VarS, unprime, if_neg (fun h => by rw [hc] at h; have := Option.some.inj h.2; rw [byte_int.2 this] at h2; cases h2)]
      simp only [go_sem, Nat.reduceEqDiff, Nat.reduceAdd, Nat.reduceSub, Nat.reduceMul, Nat.reduceLeDiff, Nat.reduceLT, Nat.reduceBEq, reduceIte, h1, h2, e1, hc]
      refine callK_pure (fn50 s) (by simp only [go_sem, Nat.reduceEqDiff, Nat.reduceAdd, Nat.reduceSub, Nat.reduceMul, Nat.reduceLeDiff, Nat.reduceLT, Nat.reduceBEq, reduceIte]) ?_
      simp only [go_sem, Nat.reduceEqDiff, Nat.reduceAdd, Nat.reduceSub, Nat.reduceMul, Nat.reduceLeDiff, Nat.reduceLT, Nat.reduceBEq, reduceIte]
      rw [e2]; exact .same _
  · have e2 : VarS s = NameS s := by rw [VarS, unprime, if_neg (fun h => by have := of_decide_eq_false h1; omega)]
    simp only [go_sem, Nat.reduceEqDiff, Nat.reduceAdd, Nat.reduceSub, Nat.reduceMul, Nat.reduceLeDiff, Nat.reduceLT, Nat.reduceBEq, reduceIte, h1]
    refine callK_pure (fn50 s) (by simp only [go_sem, Nat.reduceEqDiff, Nat.reduceAdd, Nat.reduceSub, Nat.reduceMul, Nat.reduceLeDiff, Nat.reduceLT, Nat.reduceBEq, reduceIte]) ?_
    simp only [go_sem, Nat.reduceEqDiff, Nat.reduceAdd, Nat.reduceSub, Nat.reduceMul, Nat.reduceLeDiff, Nat.reduceLT, Nat.reduceBEq, reduceIte]
    rw [e2]; exact .same _
end Go.Proofs.Ytcgphoghmgeecaa
