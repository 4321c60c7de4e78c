/- Part of the proof of a law: contracts of the functions that the law reaches, or plain laws of them, out of the abstract layer (the texts YtcgphoghmgeecaaIso..). No condition. -/
import Derived.Test.YtcgphoghmgeecaaV
namespace Go.Proofs.Ytcgphoghmgeecaa
open Go Go.Iso Go.Proofs
set_option linter.unusedSimpArgs false
set_option linter.unusedVariables false
set_option maxRecDepth 100000
set_option maxHeartbeats 1000000

abbrev byteV (c : UInt8) : V := .d (.val (.int .u8 c.toNat))
def letterB (c : UInt8) : Bool := decide (97 ≤ (c.toNat : Int)) && decide ((c.toNat : Int) ≤ 122) || decide (65 ≤ (c.toNat : Int)) && decide ((c.toNat : Int) ≤ 90)
def digitB (c : UInt8) : Bool := !(decide ((c.toNat : Int) < 48)) && !(decide (57 < (c.toNat : Int)))
abbrev s1 : List UInt8 := (⟨#[116, 114, 117, 101]⟩ : ByteArray).toList
abbrev s2 : List UInt8 := (⟨#[102, 97, 108, 115, 101]⟩ : ByteArray).toList
abbrev s3 : List UInt8 := (⟨#[102, 111, 114, 97, 108, 108]⟩ : ByteArray).toList
abbrev s4 : List UInt8 := (⟨#[101, 120, 105, 115, 116, 115]⟩ : ByteArray).toList
/-- A name. -/
def NameS (s : ByteArray) : Prop := s.size ≠ 0 ∧ s.size ≤ 12 ∧ (∀ c, s[0]? = some c → letterB c = true) ∧ (∀ k : Nat, ∀ c, s[k]? = some c → letterB c = true ∨ digitB c = true) ∧ s.toList ≠ s1 ∧ s.toList ≠ s2 ∧ s.toList ≠ s3 ∧ s.toList ≠ s4

theorem fn69 (c : UInt8) : Cn Try.prog 69 [byteV c] (boolV (letterB c)) := by
  refine Cn.of mixed Try.func69 rfl Try.call69 Try.ntmps69 Try.results69 (by simp) (by kernel_rfl) trivial fun _ => ?_
  simp only [go_sem, Nat.reduceEqDiff, Nat.reduceAdd, Nat.reduceSub, Nat.reduceMul, Nat.reduceLeDiff, Nat.reduceLT, Nat.reduceBEq, reduceIte]
  repeat' (refine splitK_intro (fun _ => ?_) (fun _ => ?_) <;> (try simp only [go_sem, Nat.reduceEqDiff, Nat.reduceAdd, Nat.reduceSub, Nat.reduceMul, Nat.reduceLeDiff, Nat.reduceLT, Nat.reduceBEq, reduceIte, *]))
  all_goals exact sealV_bool (by simp [letterB, *])
theorem fn70 (c : UInt8) : Cn Try.prog 70 [byteV c] (boolV (letterB c)) := by
  refine Cn.of mixed Try.func70 rfl Try.call70 Try.ntmps70 Try.results70 (by simp) (by kernel_rfl) trivial fun _ => ?_
  simp only [go_sem, Nat.reduceEqDiff, Nat.reduceAdd, Nat.reduceSub, Nat.reduceMul, Nat.reduceLeDiff, Nat.reduceLT, Nat.reduceBEq, reduceIte]
  repeat' (refine splitK_intro (fun _ => ?_) (fun _ => ?_) <;> (try simp only [go_sem, Nat.reduceEqDiff, Nat.reduceAdd, Nat.reduceSub, Nat.reduceMul, Nat.reduceLeDiff, Nat.reduceLT, Nat.reduceBEq, reduceIte, *]))
  all_goals exact sealV_bool (by simp [letterB, *])

theorem fn49 (s : ByteArray) : Cn Try.prog 49 [.d (.val (.string s))] (boolV (pB (NameS s))) := by
  refine Cn.of mixed Try.func49 rfl Try.call49 Try.ntmps49 Try.results49 (by simp) (by kernel_rfl) trivial fun _ => ?_
  simp only [go_sem, Nat.reduceEqDiff, Nat.reduceAdd, Nat.reduceSub, Nat.reduceMul, Nat.reduceLeDiff, Nat.reduceLT, Nat.reduceBEq, reduceIte]
  refine splitK_intro (fun h1 => ?_) (fun h1 => ?_)
  · simp only [go_sem, Nat.reduceEqDiff, Nat.reduceAdd, Nat.reduceSub, Nat.reduceMul, Nat.reduceLeDiff, Nat.reduceLT, Nat.reduceBEq, reduceIte, h1]
    exact noP fun h => h.1 (by simpa using h1)
  simp only [go_sem, Nat.reduceEqDiff, Nat.reduceAdd, Nat.reduceSub, Nat.reduceMul, Nat.reduceLeDiff, Nat.reduceLT, Nat.reduceBEq, reduceIte, h1]
  refine splitK_intro (fun h2 => ?_) (fun h2 => ?_)
  · simp only [go_sem, Nat.reduceEqDiff, Nat.reduceAdd, Nat.reduceSub, Nat.reduceMul, Nat.reduceLeDiff, Nat.reduceLT, Nat.reduceBEq, reduceIte, h1, h2]
    exact noP fun h => by
      have h3 : s.size ≤ 12 := h.2.1
      have h4 := of_decide_eq_true h2
      omega
  have h1' := beq_eq_false_iff_ne.1 h1
  have hpos : 0 < s.size := by omega
  obtain ⟨c0, hc0⟩ := byte_some hpos
  have hst : strAt s 0 = some c0 := by rw [← hc0]; exact strAt_nat (k := 0)
  simp only [go_sem, Nat.reduceEqDiff, Nat.reduceAdd, Nat.reduceSub, Nat.reduceMul, Nat.reduceLeDiff, Nat.reduceLT, Nat.reduceBEq, reduceIte, h1, h2, hst]
  refine callK_pure (fn69 c0) (by simp only [go_sem, Nat.reduceEqDiff, Nat.reduceAdd, Nat.reduceSub, Nat.reduceMul, Nat.reduceLeDiff, Nat.reduceLT, Nat.reduceBEq, reduceIte]) ?_
  simp only [go_sem, Nat.reduceEqDiff, Nat.reduceAdd, Nat.reduceSub, Nat.reduceMul, Nat.reduceLeDiff, Nat.reduceLT, Nat.reduceBEq, reduceIte, h1, h2]
  refine splitK_intro (fun h3 => ?_) (fun h3 => ?_)
  · simp only [go_sem, Nat.reduceEqDiff, Nat.reduceAdd, Nat.reduceSub, Nat.reduceMul, Nat.reduceLeDiff, Nat.reduceLT, Nat.reduceBEq, reduceIte, h3]
    exact noP fun h => by have := h.2.2.1 c0 hc0; simp [this] at h3
  simp only [go_sem, Nat.reduceEqDiff, Nat.reduceAdd, Nat.reduceSub, Nat.reduceMul, Nat.reduceLeDiff, Nat.reduceLT, Nat.reduceBEq, reduceIte, h3]
  have hsz : s.size ≤ 12 := by simp at h2; omega
  refine AW.rounds mixed (by kernel_rfl) 0 (fun k : Nat => [(0, .d (.val (.string s))), (3, intV k)]) (fun _ => []) (fun k => k ≤ s.size ∧ ∀ j : Nat, j < k → ∀ c, s[j]? = some c → letterB c = true ∨ digitB c = true) (fun k => s.size - k) 0 (Nat.le_refl _) ⟨Nat.zero_le _, fun j hj => absurd hj (Nat.not_lt_zero j)⟩ (Nat.zero_le _) ?_ ?_ ?_
  · simp only [go_sem, Nat.reduceEqDiff, Nat.reduceAdd, Nat.reduceSub, Nat.reduceMul, Nat.reduceLeDiff, Nat.reduceLT, Nat.reduceBEq, reduceIte]; simp
  · simp only [go_sem, Nat.reduceEqDiff, Nat.reduceAdd, Nat.reduceSub, Nat.reduceMul, Nat.reduceLeDiff, Nat.reduceLT, Nat.reduceBEq, reduceIte]
  rintro k ⟨hk, ht⟩
  simp only [go_sem, Nat.reduceEqDiff, Nat.reduceAdd, Nat.reduceSub, Nat.reduceMul, Nat.reduceLeDiff, Nat.reduceLT, Nat.reduceBEq, reduceIte]
  refine splitK_intro (fun h => ?_) (fun h => ?_)
  · simp only [decide_eq_true_eq, Int.ofNat_lt] at h
    obtain ⟨c, hc⟩ := byte_some h
    simp only [go_sem, Nat.reduceEqDiff, Nat.reduceAdd, Nat.reduceSub, Nat.reduceMul, Nat.reduceLeDiff, Nat.reduceLT, Nat.reduceBEq, reduceIte, hc]
    refine callK_pure (fn69 c) (by simp only [go_sem, Nat.reduceEqDiff, Nat.reduceAdd, Nat.reduceSub, Nat.reduceMul, Nat.reduceLeDiff, Nat.reduceLT, Nat.reduceBEq, reduceIte]) ?_
    simp only [go_sem, Nat.reduceEqDiff, Nat.reduceAdd, Nat.reduceSub, Nat.reduceMul, Nat.reduceLeDiff, Nat.reduceLT, Nat.reduceBEq, reduceIte, hc]
    refine splitK_intro (fun h4 => ?_) (fun h4 => ?_)
    · simp only [go_sem, Nat.reduceEqDiff, Nat.reduceAdd, Nat.reduceSub, Nat.reduceMul, Nat.reduceLeDiff, Nat.reduceLT, Nat.reduceBEq, reduceIte, h4, hc]
      refine splitK_intro (fun h5 => ?_) (fun h5 => ?_)
      · simp only [go_sem, Nat.reduceEqDiff, Nat.reduceAdd, Nat.reduceSub, Nat.reduceMul, Nat.reduceLeDiff, Nat.reduceLT, Nat.reduceBEq, reduceIte, h4, h5, hc]
        exact noP fun h => by rcases h.2.2.2.1 k c hc with e | e <;> simp_all [digitB]
      simp only [go_sem, Nat.reduceEqDiff, Nat.reduceAdd, Nat.reduceSub, Nat.reduceMul, Nat.reduceLeDiff, Nat.reduceLT, Nat.reduceBEq, reduceIte, h4, h5, hc]
      refine splitK_intro (fun h6 => ?_) (fun h6 => ?_)
      · simp only [go_sem, Nat.reduceEqDiff, Nat.reduceAdd, Nat.reduceSub, Nat.reduceMul, Nat.reduceLeDiff, Nat.reduceLT, Nat.reduceBEq, reduceIte, h4, h5, h6, hc]
        exact noP fun h => by rcases h.2.2.2.1 k c hc with e | e <;> simp_all [digitB]
      simp only [go_sem, Nat.reduceEqDiff, Nat.reduceAdd, Nat.reduceSub, Nat.reduceMul, Nat.reduceLeDiff, Nat.reduceLT, Nat.reduceBEq, reduceIte, h4, h5, h6, hc]
      refine ⟨k + 1, ⟨by omega, fun j hj c' hc' => ?_⟩, by omega, by rw [wrap_i64 (by omega) (by omega)]; rfl⟩
      rcases Nat.lt_succ_iff_lt_or_eq.1 hj with hj | rfl
      · exact ht j hj c' hc'
      · rw [hc] at hc'; cases hc'; exact .inr (by simp_all [digitB])
    · simp only [go_sem, Nat.reduceEqDiff, Nat.reduceAdd, Nat.reduceSub, Nat.reduceMul, Nat.reduceLeDiff, Nat.reduceLT, Nat.reduceBEq, reduceIte, h4, hc]
      refine ⟨k + 1, ⟨by omega, fun j hj c' hc' => ?_⟩, by omega, by rw [wrap_i64 (by omega) (by omega)]; rfl⟩
      rcases Nat.lt_succ_iff_lt_or_eq.1 hj with hj | rfl
      · exact ht j hj c' hc'
      · rw [hc] at hc'; cases hc'; exact .inl (by simpa using h4)
  · simp only [go_sem, Nat.reduceEqDiff, Nat.reduceAdd, Nat.reduceSub, Nat.reduceMul, Nat.reduceLeDiff, Nat.reduceLT, Nat.reduceBEq, reduceIte, h]
    have all : ∀ j : Nat, ∀ c, s[j]? = some c → letterB c = true ∨ digitB c = true := fun j c hj => ht j (by
      have : j < s.size := (getElem?_eq_some_iff.1 hj).1
      simp at h; omega) c hj
    refine splitK_intro (fun e1 => ?_) (fun e1 => ?_)
    · simp only [go_sem, Nat.reduceEqDiff, Nat.reduceAdd, Nat.reduceSub, Nat.reduceMul, Nat.reduceLeDiff, Nat.reduceLT, Nat.reduceBEq, reduceIte, e1]
      exact noP fun h => h.2.2.2.2.1 (by simpa using e1)
    simp only [go_sem, Nat.reduceEqDiff, Nat.reduceAdd, Nat.reduceSub, Nat.reduceMul, Nat.reduceLeDiff, Nat.reduceLT, Nat.reduceBEq, reduceIte, e1]
    refine splitK_intro (fun e2 => ?_) (fun e2 => ?_)
    · simp only [go_sem, Nat.reduceEqDiff, Nat.reduceAdd, Nat.reduceSub, Nat.reduceMul, Nat.reduceLeDiff, Nat.reduceLT, Nat.reduceBEq, reduceIte, e1, e2]
      exact noP fun h => h.2.2.2.2.2.1 (by simpa using e2)
    simp only [go_sem, Nat.reduceEqDiff, Nat.reduceAdd, Nat.reduceSub, Nat.reduceMul, Nat.reduceLeDiff, Nat.reduceLT, Nat.reduceBEq, reduceIte, e1, e2]
    refine splitK_intro (fun e3 => ?_) (fun e3 => ?_)
    · simp only [go_sem, Nat.reduceEqDiff, Nat.reduceAdd, Nat.reduceSub, Nat.reduceMul, Nat.reduceLeDiff, Nat.reduceLT, Nat.reduceBEq, reduceIte, e1, e2, e3]
      exact noP fun h => h.2.2.2.2.2.2.1 (by simpa using e3)
    simp only [go_sem, Nat.reduceEqDiff, Nat.reduceAdd, Nat.reduceSub, Nat.reduceMul, Nat.reduceLeDiff, Nat.reduceLT, Nat.reduceBEq, reduceIte, e1, e2, e3]
    refine splitK_intro (fun e4 => ?_) (fun e4 => ?_)
    · simp only [go_sem, Nat.reduceEqDiff, Nat.reduceAdd, Nat.reduceSub, Nat.reduceMul, Nat.reduceLeDiff, Nat.reduceLT, Nat.reduceBEq, reduceIte, e1, e2, e3, e4]
      exact noP fun h => h.2.2.2.2.2.2.2 (by simpa using e4)
    simp only [go_sem, Nat.reduceEqDiff, Nat.reduceAdd, Nat.reduceSub, Nat.reduceMul, Nat.reduceLeDiff, Nat.reduceLT, Nat.reduceBEq, reduceIte, e1, e2, e3, e4]
    exact yesP ⟨by omega, hsz, fun c hc => by rw [hc0] at hc; cases hc; simpa using h3, all, by simpa using e1, by simpa using e2, by simpa using e3, by simpa using e4⟩
end Go.Proofs.Ytcgphoghmgeecaa
