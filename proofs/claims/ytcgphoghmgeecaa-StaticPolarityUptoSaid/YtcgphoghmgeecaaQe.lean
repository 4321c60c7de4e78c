/- Part of the proof of a law: contracts of the functions that the law reaches, or plain laws of them, out of the abstract layer (the texts YtcgphoghmgeecaaIso..). No condition. -/
import Derived.Test.YtcgphoghmgeecaaQd
namespace Go.Proofs.Ytcgphoghmgeecaa
open Go Go.Iso Go.Proofs
set_option linter.unusedSimpArgs false
set_option linter.unusedVariables false
set_option maxRecDepth 100000
set_option maxHeartbeats 1000000


structure NamesA where
  all : Bool
  list : List ByteArray
def NamesA.enc (s : NamesA) : List D := [.val (.bool s.all), slD strV s.list]
/-- A set is valid: variables, sorted, each once. -/
def ValidL (l : List ByteArray) : Prop := ∀ j x, l[j]? = some x → VarS x ∧ ∀ i y, j = i + 1 → l[i]? = some y → ltS y x = true
theorem wrapP {k : Nat} (h : k < 9223372036854775807) : IntKind.wrap .i64 (((k + 1 : Nat) : Int) - 1) = (k : Int) := by rw [wrap_i64 (by omega) (by omega)]; omega

theorem fn8 (s : NamesA) : Cn Try.prog 8 [aggV s.enc] (boolV (pB (ValidL s.list))) := by
  obtain ⟨al, l⟩ := s
  refine Cn.of mixed Try.func8 rfl Try.call8 Try.ntmps8 Try.results8 (by simp) (by kernel_rfl) trivial fun hfit => ?_
  have hm : l.length ≤ 9223372036854775807 := fit_sl (fitA_cons (fitA_cons (fitA_agg hfit).1).2).1
  simp only [go_sem, Nat.reduceEqDiff, Nat.reduceAdd, Nat.reduceSub, Nat.reduceMul, Nat.reduceLeDiff, Nat.reduceLT, Nat.reduceBEq, reduceIte, NamesA.enc]
  refine AW.roundsR mixed (by kernel_rfl) (fun k : Nat => [(1, .ptr 0 2 0 0), (6, slV strV l), (7, intV l.length), (8, intV k)]) (fun _ => [some ⟨2, [aggL (NamesA.enc ⟨al, l⟩)]⟩]) (fun k => k ≤ l.length ∧ ∀ j x, j < k → l[j]? = some x → VarS x ∧ ∀ i y, j = i + 1 → l[i]? = some y → ltS y x = true) (fun k => l.length - k) 0 [0] ⟨Nat.zero_le _, fun j x h => absurd h (Nat.not_lt_zero j)⟩ ?_ ?_
  · simp only [go_sem, Nat.reduceEqDiff, Nat.reduceAdd, Nat.reduceSub, Nat.reduceMul, Nat.reduceLeDiff, Nat.reduceLT, Nat.reduceBEq, reduceIte, NamesA.enc]; simp
  rintro k ⟨hk, ht⟩

  simp only [go_sem, Nat.reduceEqDiff, Nat.reduceAdd, Nat.reduceSub, Nat.reduceMul, Nat.reduceLeDiff, Nat.reduceLT, Nat.reduceBEq, reduceIte, NamesA.enc]
  refine splitK_intro (fun h => ?_) (fun h => ?_)
  · simp only [decide_eq_true_eq, Int.ofNat_lt] at h
    obtain ⟨x, hx⟩ := get_some h
    simp only [go_sem, Nat.reduceEqDiff, Nat.reduceAdd, Nat.reduceSub, Nat.reduceMul, Nat.reduceLeDiff, Nat.reduceLT, Nat.reduceBEq, reduceIte, hx, NamesA.enc]
    refine callK_pure (fn29 x) (by simp only [go_sem, Nat.reduceEqDiff, Nat.reduceAdd, Nat.reduceSub, Nat.reduceMul, Nat.reduceLeDiff, Nat.reduceLT, Nat.reduceBEq, reduceIte]) ?_
    simp only [go_sem, Nat.reduceEqDiff, Nat.reduceAdd, Nat.reduceSub, Nat.reduceMul, Nat.reduceLeDiff, Nat.reduceLT, Nat.reduceBEq, reduceIte, hx, NamesA.enc]
    refine splitK_intro (fun h1 => ?_) (fun h1 => ?_)
    · simp only [go_sem, Nat.reduceEqDiff, Nat.reduceAdd, Nat.reduceSub, Nat.reduceMul, Nat.reduceLeDiff, Nat.reduceLT, Nat.reduceBEq, reduceIte, h1]
      exact noP fun h => by have := (h k x hx).1; rw [pB_true.2 this] at h1; cases h1
    have hv : VarS x := pB_true.1 (by simpa using h1)
    cases k with
    | zero =>
      have e0 : decide ((0 : Int) < ((0 : Nat) : Int)) = false := rfl
      simp only [go_sem, Nat.reduceEqDiff, Nat.reduceAdd, Nat.reduceSub, Nat.reduceMul, Nat.reduceLeDiff, Nat.reduceLT, Nat.reduceBEq, reduceIte, h1, e0]
      refine RoundQ.mk 1 [0] ⟨by omega, fun j x' hj hx' => ?_⟩ (by omega) ?_
      · have : j = 0 := by omega
        subst this; rw [hx] at hx'; cases hx'
        exact ⟨hv, fun i y hi => by omega⟩
      · simp only [go_sem, Nat.reduceEqDiff, Nat.reduceAdd, Nat.reduceSub, Nat.reduceMul, Nat.reduceLeDiff, Nat.reduceLT, Nat.reduceBEq, reduceIte, NamesA.enc]
        rw [wrapN (by omega)]
    | succ k =>
      have e0 : decide ((0 : Int) < ((k + 1 : Nat) : Int)) = true := by simp
      obtain ⟨y, hy⟩ := get_some (show k < l.length by omega)
      simp only [go_sem, Nat.reduceEqDiff, Nat.reduceAdd, Nat.reduceSub, Nat.reduceMul, Nat.reduceLeDiff, Nat.reduceLT, Nat.reduceBEq, reduceIte, h1, e0, hx, NamesA.enc]
      rw [wrapP (by omega)]
      simp only [go_sem, Nat.reduceEqDiff, Nat.reduceAdd, Nat.reduceSub, Nat.reduceMul, Nat.reduceLeDiff, Nat.reduceLT, Nat.reduceBEq, reduceIte, h1, e0, hx, hy, NamesA.enc]
      refine splitK_intro (fun h2 => ?_) (fun h2 => ?_)
      · simp only [go_sem, Nat.reduceEqDiff, Nat.reduceAdd, Nat.reduceSub, Nat.reduceMul, Nat.reduceLeDiff, Nat.reduceLT, Nat.reduceBEq, reduceIte, h1, h2]
        exact noP fun h => by
          have := (h (k + 1) x hx).2 k y rfl hy
          rw [ltS] at this; rw [this] at h2; cases h2
      · simp only [go_sem, Nat.reduceEqDiff, Nat.reduceAdd, Nat.reduceSub, Nat.reduceMul, Nat.reduceLeDiff, Nat.reduceLT, Nat.reduceBEq, reduceIte, h1, h2]
        refine RoundQ.mk (k + 1 + 1) [0] ⟨by omega, fun j x' hj hx' => ?_⟩ (by omega) ?_
        · rcases Nat.lt_succ_iff_lt_or_eq.1 hj with hj | rfl
          · exact ht j x' hj hx'
          · rw [hx] at hx'; cases hx'
            refine ⟨hv, fun i y' hi hy' => ?_⟩
            have : i = k := by omega
            subst this; rw [hy] at hy'; cases hy'
            simpa [ltS] using h2
        · simp only [go_sem, Nat.reduceEqDiff, Nat.reduceAdd, Nat.reduceSub, Nat.reduceMul, Nat.reduceLeDiff, Nat.reduceLT, Nat.reduceBEq, reduceIte, NamesA.enc]
          rw [wrapN (by omega)]
  · simp only [go_sem, Nat.reduceEqDiff, Nat.reduceAdd, Nat.reduceSub, Nat.reduceMul, Nat.reduceLeDiff, Nat.reduceLT, Nat.reduceBEq, reduceIte, h]
    exact yesP fun j x hj => ht j x (by have := (List.getElem?_eq_some_iff.1 hj).1; have := of_decide_eq_false h; omega) hj

theorem fn9 (s : NamesA) : Cn Try.prog 9 [aggV s.enc] (boolV (pB (ValidL s.list))) := by
  obtain ⟨al, l⟩ := s
  refine Cn.of mixed Try.func9 rfl Try.call9 Try.ntmps9 Try.results9 (by simp) (by kernel_rfl) trivial fun hfit => ?_
  have hm : l.length ≤ 9223372036854775807 := fit_sl (fitA_cons (fitA_cons (fitA_agg hfit).1).2).1
  simp only [go_sem, Nat.reduceEqDiff, Nat.reduceAdd, Nat.reduceSub, Nat.reduceMul, Nat.reduceLeDiff, Nat.reduceLT, Nat.reduceBEq, reduceIte, NamesA.enc]
  refine AW.roundsR mixed (by kernel_rfl) (fun k : Nat => [(1, .ptr 0 2 0 0), (3, intV k)]) (fun _ => [some ⟨2, [aggL (NamesA.enc ⟨al, l⟩)]⟩]) (fun k => k ≤ l.length ∧ ∀ j x, j < k → l[j]? = some x → VarS x ∧ ∀ i y, j = i + 1 → l[i]? = some y → ltS y x = true) (fun k => l.length - k) 0 [0] ⟨Nat.zero_le _, fun j x h => absurd h (Nat.not_lt_zero j)⟩ ?_ ?_
  · simp only [go_sem, Nat.reduceEqDiff, Nat.reduceAdd, Nat.reduceSub, Nat.reduceMul, Nat.reduceLeDiff, Nat.reduceLT, Nat.reduceBEq, reduceIte, NamesA.enc]; simp
  rintro k ⟨hk, ht⟩

  simp only [go_sem, Nat.reduceEqDiff, Nat.reduceAdd, Nat.reduceSub, Nat.reduceMul, Nat.reduceLeDiff, Nat.reduceLT, Nat.reduceBEq, reduceIte, NamesA.enc]
  refine splitK_intro (fun h => ?_) (fun h => ?_)
  · simp only [decide_eq_true_eq, Int.ofNat_lt] at h
    obtain ⟨x, hx⟩ := get_some h
    simp only [go_sem, Nat.reduceEqDiff, Nat.reduceAdd, Nat.reduceSub, Nat.reduceMul, Nat.reduceLeDiff, Nat.reduceLT, Nat.reduceBEq, reduceIte, hx, NamesA.enc]
    refine pcallK_intro (fn30 x) (by simp only [go_sem, Nat.reduceEqDiff, Nat.reduceAdd, Nat.reduceSub, Nat.reduceMul, Nat.reduceLeDiff, Nat.reduceLT, Nat.reduceBEq, reduceIte]) ?_
    simp only [go_sem, Nat.reduceEqDiff, Nat.reduceAdd, Nat.reduceSub, Nat.reduceMul, Nat.reduceLeDiff, Nat.reduceLT, Nat.reduceBEq, reduceIte, hx, NamesA.enc]
    refine splitK_intro (fun h1 => ?_) (fun h1 => ?_)
    · simp only [go_sem, Nat.reduceEqDiff, Nat.reduceAdd, Nat.reduceSub, Nat.reduceMul, Nat.reduceLeDiff, Nat.reduceLT, Nat.reduceBEq, reduceIte, h1]
      exact noP fun h => by have := (h k x hx).1; rw [pB_true.2 this] at h1; cases h1
    have hv : VarS x := pB_true.1 (by simpa using h1)
    cases k with
    | zero =>
      have e0 : decide ((0 : Int) < ((0 : Nat) : Int)) = false := rfl
      simp only [go_sem, Nat.reduceEqDiff, Nat.reduceAdd, Nat.reduceSub, Nat.reduceMul, Nat.reduceLeDiff, Nat.reduceLT, Nat.reduceBEq, reduceIte, h1, e0]
      refine RoundQ.mk 1 [0] ⟨by omega, fun j x' hj hx' => ?_⟩ (by omega) ?_
      · have : j = 0 := by omega
        subst this; rw [hx] at hx'; cases hx'
        exact ⟨hv, fun i y hi => by omega⟩
      · simp only [go_sem, Nat.reduceEqDiff, Nat.reduceAdd, Nat.reduceSub, Nat.reduceMul, Nat.reduceLeDiff, Nat.reduceLT, Nat.reduceBEq, reduceIte, NamesA.enc]
        rw [wrapN (by omega)]
    | succ k =>
      have e0 : decide ((0 : Int) < ((k + 1 : Nat) : Int)) = true := by simp
      obtain ⟨y, hy⟩ := get_some (show k < l.length by omega)
      simp only [go_sem, Nat.reduceEqDiff, Nat.reduceAdd, Nat.reduceSub, Nat.reduceMul, Nat.reduceLeDiff, Nat.reduceLT, Nat.reduceBEq, reduceIte, h1, e0, hx, NamesA.enc]
      rw [wrapP (by omega)]
      simp only [go_sem, Nat.reduceEqDiff, Nat.reduceAdd, Nat.reduceSub, Nat.reduceMul, Nat.reduceLeDiff, Nat.reduceLT, Nat.reduceBEq, reduceIte, h1, e0, hx, hy, NamesA.enc]
      refine splitK_intro (fun h2 => ?_) (fun h2 => ?_)
      · simp only [go_sem, Nat.reduceEqDiff, Nat.reduceAdd, Nat.reduceSub, Nat.reduceMul, Nat.reduceLeDiff, Nat.reduceLT, Nat.reduceBEq, reduceIte, h1, h2]
        exact noP fun h => by
          have := (h (k + 1) x hx).2 k y rfl hy
          rw [ltS] at this; rw [this] at h2; cases h2
      · simp only [go_sem, Nat.reduceEqDiff, Nat.reduceAdd, Nat.reduceSub, Nat.reduceMul, Nat.reduceLeDiff, Nat.reduceLT, Nat.reduceBEq, reduceIte, h1, h2]
        refine RoundQ.mk (k + 1 + 1) [0] ⟨by omega, fun j x' hj hx' => ?_⟩ (by omega) ?_
        · rcases Nat.lt_succ_iff_lt_or_eq.1 hj with hj | rfl
          · exact ht j x' hj hx'
          · rw [hx] at hx'; cases hx'
            refine ⟨hv, fun i y' hi hy' => ?_⟩
            have : i = k := by omega
            subst this; rw [hy] at hy'; cases hy'
            simpa [ltS] using h2
        · simp only [go_sem, Nat.reduceEqDiff, Nat.reduceAdd, Nat.reduceSub, Nat.reduceMul, Nat.reduceLeDiff, Nat.reduceLT, Nat.reduceBEq, reduceIte, NamesA.enc]
          rw [wrapN (by omega)]
  · simp only [go_sem, Nat.reduceEqDiff, Nat.reduceAdd, Nat.reduceSub, Nat.reduceMul, Nat.reduceLeDiff, Nat.reduceLT, Nat.reduceBEq, reduceIte, h]
    exact yesP fun j x hj => ht j x (by have := (List.getElem?_eq_some_iff.1 hj).1; have := of_decide_eq_false h; omega) hj

def notS (s : NamesA) : NamesA := ⟨!s.all, s.list⟩
def unionS (a b : NamesA) : NamesA :=
  if a.all = true then (if b.all = true then ⟨true, mixS false true false a.list b.list⟩ else ⟨true, mixS true false false a.list b.list⟩)
  else if b.all = true then ⟨true, mixS false false true a.list b.list⟩ else ⟨false, mixS true true true a.list b.list⟩
def meetS (a b : NamesA) : NamesA := notS (unionS (notS a) (notS b))
def minusS (a b : NamesA) : NamesA := meetS a (notS b)
noncomputable def joinR (a b : NamesA) : NamesA :=
  if a.all = true then (if b.all = true then ⟨true, keptS a.list b.list true⟩ else ⟨true, keptS a.list b.list false⟩)
  else if b.all = true then ⟨true, keptS b.list a.list false⟩ else ⟨false, bothS a.list b.list⟩
noncomputable def meetR (a b : NamesA) : NamesA := notS (joinR (notS a) (notS b))
noncomputable def minusR (a b : NamesA) : NamesA := meetR a (notS b)

theorem fn56 (s : NamesA) : Cn Try.prog 56 [aggV s.enc] (aggV (notS s).enc) := by
  obtain ⟨al, l⟩ := s
  refine Cn.of mixed Try.func56 rfl Try.call56 Try.ntmps56 Try.results56 (by simp) (by kernel_rfl) (by simp [aggV, refs_agg, refsL_data]) fun hfit => ?_
  simp only [go_sem, Nat.reduceEqDiff, Nat.reduceAdd, Nat.reduceSub, Nat.reduceMul, Nat.reduceLeDiff, Nat.reduceLT, Nat.reduceBEq, reduceIte, NamesA.enc, notS]
  exact .same _

theorem fn57 (s : NamesA) : Cn Try.prog 57 [aggV s.enc] (aggV (notS s).enc) := by
  obtain ⟨al, l⟩ := s
  refine Cn.of mixed Try.func57 rfl Try.call57 Try.ntmps57 Try.results57 (by simp) (by kernel_rfl) (by simp [aggV, refs_agg, refsL_data]) fun hfit => ?_
  simp only [go_sem, Nat.reduceEqDiff, Nat.reduceAdd, Nat.reduceSub, Nat.reduceMul, Nat.reduceLeDiff, Nat.reduceLT, Nat.reduceBEq, reduceIte, NamesA.enc, notS]
  exact .same _

theorem fn34 (a b : NamesA) (hlen : a.list.length + b.list.length ≤ 900000) : Cn Try.prog 34 [aggV a.enc, aggV b.enc] (aggV (unionS a b).enc) := by
  obtain ⟨al, a⟩ := a
  obtain ⟨bl, b⟩ := b
  simp only at hlen
  refine Cn.of mixed Try.func34 rfl Try.call34 Try.ntmps34 Try.results34 (by simp) (by kernel_rfl) (by simp only [go_sem, Nat.reduceEqDiff, Nat.reduceAdd, Nat.reduceSub, Nat.reduceMul, Nat.reduceLeDiff, Nat.reduceLT, Nat.reduceBEq, reduceIte, NamesA.enc]) fun hfit => ?_
  cases al <;> cases bl
  · simp only [go_sem, Nat.reduceEqDiff, Nat.reduceAdd, Nat.reduceSub, Nat.reduceMul, Nat.reduceLeDiff, Nat.reduceLT, Nat.reduceBEq, reduceIte, NamesA.enc]
    refine callK_pure (fn53 a b true true true (by omega)) (by simp only [go_sem, Nat.reduceEqDiff, Nat.reduceAdd, Nat.reduceSub, Nat.reduceMul, Nat.reduceLeDiff, Nat.reduceLT, Nat.reduceBEq, reduceIte]) ?_
    simp only [go_sem, Nat.reduceEqDiff, Nat.reduceAdd, Nat.reduceSub, Nat.reduceMul, Nat.reduceLeDiff, Nat.reduceLT, Nat.reduceBEq, reduceIte, NamesA.enc, unionS]
    exact .same _
  · simp only [go_sem, Nat.reduceEqDiff, Nat.reduceAdd, Nat.reduceSub, Nat.reduceMul, Nat.reduceLeDiff, Nat.reduceLT, Nat.reduceBEq, reduceIte, NamesA.enc]
    refine callK_pure (fn53 a b false false true (by omega)) (by simp only [go_sem, Nat.reduceEqDiff, Nat.reduceAdd, Nat.reduceSub, Nat.reduceMul, Nat.reduceLeDiff, Nat.reduceLT, Nat.reduceBEq, reduceIte]) ?_
    simp only [go_sem, Nat.reduceEqDiff, Nat.reduceAdd, Nat.reduceSub, Nat.reduceMul, Nat.reduceLeDiff, Nat.reduceLT, Nat.reduceBEq, reduceIte, NamesA.enc, unionS]
    exact .same _
  · simp only [go_sem, Nat.reduceEqDiff, Nat.reduceAdd, Nat.reduceSub, Nat.reduceMul, Nat.reduceLeDiff, Nat.reduceLT, Nat.reduceBEq, reduceIte, NamesA.enc]
    refine callK_pure (fn53 a b true false false (by omega)) (by simp only [go_sem, Nat.reduceEqDiff, Nat.reduceAdd, Nat.reduceSub, Nat.reduceMul, Nat.reduceLeDiff, Nat.reduceLT, Nat.reduceBEq, reduceIte]) ?_
    simp only [go_sem, Nat.reduceEqDiff, Nat.reduceAdd, Nat.reduceSub, Nat.reduceMul, Nat.reduceLeDiff, Nat.reduceLT, Nat.reduceBEq, reduceIte, NamesA.enc, unionS]
    exact .same _
  · simp only [go_sem, Nat.reduceEqDiff, Nat.reduceAdd, Nat.reduceSub, Nat.reduceMul, Nat.reduceLeDiff, Nat.reduceLT, Nat.reduceBEq, reduceIte, NamesA.enc]
    refine callK_pure (fn53 a b false true false (by omega)) (by simp only [go_sem, Nat.reduceEqDiff, Nat.reduceAdd, Nat.reduceSub, Nat.reduceMul, Nat.reduceLeDiff, Nat.reduceLT, Nat.reduceBEq, reduceIte]) ?_
    simp only [go_sem, Nat.reduceEqDiff, Nat.reduceAdd, Nat.reduceSub, Nat.reduceMul, Nat.reduceLeDiff, Nat.reduceLT, Nat.reduceBEq, reduceIte, NamesA.enc, unionS]
    exact .same _

theorem fn35 (a b : NamesA) (hlen : a.list.length + b.list.length ≤ 900000) : Cn Try.prog 35 [aggV a.enc, aggV b.enc] (aggV (joinR a b).enc) := by
  obtain ⟨al, a⟩ := a
  obtain ⟨bl, b⟩ := b
  simp only at hlen
  refine Cn.of mixed Try.func35 rfl Try.call35 Try.ntmps35 Try.results35 (by simp) (by kernel_rfl) (by simp only [go_sem, Nat.reduceEqDiff, Nat.reduceAdd, Nat.reduceSub, Nat.reduceMul, Nat.reduceLeDiff, Nat.reduceLT, Nat.reduceBEq, reduceIte, NamesA.enc]) fun hfit => ?_
  cases al <;> cases bl
  · simp only [go_sem, Nat.reduceEqDiff, Nat.reduceAdd, Nat.reduceSub, Nat.reduceMul, Nat.reduceLeDiff, Nat.reduceLT, Nat.reduceBEq, reduceIte, NamesA.enc]
    refine callK_pure (fn55 a b (by omega)) (by simp only [go_sem, Nat.reduceEqDiff, Nat.reduceAdd, Nat.reduceSub, Nat.reduceMul, Nat.reduceLeDiff, Nat.reduceLT, Nat.reduceBEq, reduceIte]) ?_
    simp only [go_sem, Nat.reduceEqDiff, Nat.reduceAdd, Nat.reduceSub, Nat.reduceMul, Nat.reduceLeDiff, Nat.reduceLT, Nat.reduceBEq, reduceIte, NamesA.enc, joinR]
    exact .same _
  · simp only [go_sem, Nat.reduceEqDiff, Nat.reduceAdd, Nat.reduceSub, Nat.reduceMul, Nat.reduceLeDiff, Nat.reduceLT, Nat.reduceBEq, reduceIte, NamesA.enc]
    refine callK_pure (fn54 b a false (by omega)) (by simp only [go_sem, Nat.reduceEqDiff, Nat.reduceAdd, Nat.reduceSub, Nat.reduceMul, Nat.reduceLeDiff, Nat.reduceLT, Nat.reduceBEq, reduceIte]) ?_
    simp only [go_sem, Nat.reduceEqDiff, Nat.reduceAdd, Nat.reduceSub, Nat.reduceMul, Nat.reduceLeDiff, Nat.reduceLT, Nat.reduceBEq, reduceIte, NamesA.enc, joinR]
    exact .same _
  · simp only [go_sem, Nat.reduceEqDiff, Nat.reduceAdd, Nat.reduceSub, Nat.reduceMul, Nat.reduceLeDiff, Nat.reduceLT, Nat.reduceBEq, reduceIte, NamesA.enc]
    refine callK_pure (fn54 a b false (by omega)) (by simp only [go_sem, Nat.reduceEqDiff, Nat.reduceAdd, Nat.reduceSub, Nat.reduceMul, Nat.reduceLeDiff, Nat.reduceLT, Nat.reduceBEq, reduceIte]) ?_
    simp only [go_sem, Nat.reduceEqDiff, Nat.reduceAdd, Nat.reduceSub, Nat.reduceMul, Nat.reduceLeDiff, Nat.reduceLT, Nat.reduceBEq, reduceIte, NamesA.enc, joinR]
    exact .same _
  · simp only [go_sem, Nat.reduceEqDiff, Nat.reduceAdd, Nat.reduceSub, Nat.reduceMul, Nat.reduceLeDiff, Nat.reduceLT, Nat.reduceBEq, reduceIte, NamesA.enc]
    refine callK_pure (fn54 a b true (by omega)) (by simp only [go_sem, Nat.reduceEqDiff, Nat.reduceAdd, Nat.reduceSub, Nat.reduceMul, Nat.reduceLeDiff, Nat.reduceLT, Nat.reduceBEq, reduceIte]) ?_
    simp only [go_sem, Nat.reduceEqDiff, Nat.reduceAdd, Nat.reduceSub, Nat.reduceMul, Nat.reduceLeDiff, Nat.reduceLT, Nat.reduceBEq, reduceIte, NamesA.enc, joinR]
    exact .same _

theorem fn36 (a b : NamesA) (hlen : a.list.length + b.list.length ≤ 900000) : Cn Try.prog 36 [aggV a.enc, aggV b.enc] (aggV (meetS a b).enc) := by
  refine Cn.of mixed Try.func36 rfl Try.call36 Try.ntmps36 Try.results36 (by simp) (by kernel_rfl) (by simp [aggV, refs_agg, refsL_data]) fun hfit => ?_
  have ea : ∀ s : NamesA, aggV s.enc = .agg [.d (.val (.bool s.all)), slV strV s.list] := fun s => rfl
  simp only [go_sem, Nat.reduceEqDiff, Nat.reduceAdd, Nat.reduceSub, Nat.reduceMul, Nat.reduceLeDiff, Nat.reduceLT, Nat.reduceBEq, reduceIte, ea]
  refine pcallK_intro (fn56 a) (by simp only [go_sem, Nat.reduceEqDiff, Nat.reduceAdd, Nat.reduceSub, Nat.reduceMul, Nat.reduceLeDiff, Nat.reduceLT, Nat.reduceBEq, reduceIte, ea]) ?_
  simp only [go_sem, Nat.reduceEqDiff, Nat.reduceAdd, Nat.reduceSub, Nat.reduceMul, Nat.reduceLeDiff, Nat.reduceLT, Nat.reduceBEq, reduceIte, ea]
  refine pcallK_intro (fn56 b) (by simp only [go_sem, Nat.reduceEqDiff, Nat.reduceAdd, Nat.reduceSub, Nat.reduceMul, Nat.reduceLeDiff, Nat.reduceLT, Nat.reduceBEq, reduceIte, ea]) ?_
  simp only [go_sem, Nat.reduceEqDiff, Nat.reduceAdd, Nat.reduceSub, Nat.reduceMul, Nat.reduceLeDiff, Nat.reduceLT, Nat.reduceBEq, reduceIte, ea]
  refine pcallK_intro (fn34 (notS a) (notS b) hlen) (by simp only [go_sem, Nat.reduceEqDiff, Nat.reduceAdd, Nat.reduceSub, Nat.reduceMul, Nat.reduceLeDiff, Nat.reduceLT, Nat.reduceBEq, reduceIte, ea]) ?_
  simp only [go_sem, Nat.reduceEqDiff, Nat.reduceAdd, Nat.reduceSub, Nat.reduceMul, Nat.reduceLeDiff, Nat.reduceLT, Nat.reduceBEq, reduceIte, ea]
  refine pcallK_intro (fn56 (unionS (notS a) (notS b))) (by simp only [go_sem, Nat.reduceEqDiff, Nat.reduceAdd, Nat.reduceSub, Nat.reduceMul, Nat.reduceLeDiff, Nat.reduceLT, Nat.reduceBEq, reduceIte, ea]) ?_
  simp only [go_sem, Nat.reduceEqDiff, Nat.reduceAdd, Nat.reduceSub, Nat.reduceMul, Nat.reduceLeDiff, Nat.reduceLT, Nat.reduceBEq, reduceIte, ea]
  exact .same _

theorem fn37 (a b : NamesA) (hlen : a.list.length + b.list.length ≤ 900000) : Cn Try.prog 37 [aggV a.enc, aggV b.enc] (aggV (meetR a b).enc) := by
  refine Cn.of mixed Try.func37 rfl Try.call37 Try.ntmps37 Try.results37 (by simp) (by kernel_rfl) (by simp [aggV, refs_agg, refsL_data]) fun hfit => ?_
  have ea : ∀ s : NamesA, aggV s.enc = .agg [.d (.val (.bool s.all)), slV strV s.list] := fun s => rfl
  simp only [go_sem, Nat.reduceEqDiff, Nat.reduceAdd, Nat.reduceSub, Nat.reduceMul, Nat.reduceLeDiff, Nat.reduceLT, Nat.reduceBEq, reduceIte, ea]
  refine pcallK_intro (fn57 a) (by simp only [go_sem, Nat.reduceEqDiff, Nat.reduceAdd, Nat.reduceSub, Nat.reduceMul, Nat.reduceLeDiff, Nat.reduceLT, Nat.reduceBEq, reduceIte, ea]) ?_
  simp only [go_sem, Nat.reduceEqDiff, Nat.reduceAdd, Nat.reduceSub, Nat.reduceMul, Nat.reduceLeDiff, Nat.reduceLT, Nat.reduceBEq, reduceIte, ea]
  refine pcallK_intro (fn57 b) (by simp only [go_sem, Nat.reduceEqDiff, Nat.reduceAdd, Nat.reduceSub, Nat.reduceMul, Nat.reduceLeDiff, Nat.reduceLT, Nat.reduceBEq, reduceIte, ea]) ?_
  simp only [go_sem, Nat.reduceEqDiff, Nat.reduceAdd, Nat.reduceSub, Nat.reduceMul, Nat.reduceLeDiff, Nat.reduceLT, Nat.reduceBEq, reduceIte, ea]
  refine pcallK_intro (fn35 (notS a) (notS b) hlen) (by simp only [go_sem, Nat.reduceEqDiff, Nat.reduceAdd, Nat.reduceSub, Nat.reduceMul, Nat.reduceLeDiff, Nat.reduceLT, Nat.reduceBEq, reduceIte, ea]) ?_
  simp only [go_sem, Nat.reduceEqDiff, Nat.reduceAdd, Nat.reduceSub, Nat.reduceMul, Nat.reduceLeDiff, Nat.reduceLT, Nat.reduceBEq, reduceIte, ea]
  refine pcallK_intro (fn57 (joinR (notS a) (notS b))) (by simp only [go_sem, Nat.reduceEqDiff, Nat.reduceAdd, Nat.reduceSub, Nat.reduceMul, Nat.reduceLeDiff, Nat.reduceLT, Nat.reduceBEq, reduceIte, ea]) ?_
  simp only [go_sem, Nat.reduceEqDiff, Nat.reduceAdd, Nat.reduceSub, Nat.reduceMul, Nat.reduceLeDiff, Nat.reduceLT, Nat.reduceBEq, reduceIte, ea]
  exact .same _

theorem fn38 (a b : NamesA) (hlen : a.list.length + b.list.length ≤ 900000) : Cn Try.prog 38 [aggV a.enc, aggV b.enc] (aggV (minusS a b).enc) := by
  refine Cn.of mixed Try.func38 rfl Try.call38 Try.ntmps38 Try.results38 (by simp) (by kernel_rfl) (by simp [aggV, refs_agg, refsL_data]) fun hfit => ?_
  have ea : ∀ s : NamesA, aggV s.enc = .agg [.d (.val (.bool s.all)), slV strV s.list] := fun s => rfl
  simp only [go_sem, Nat.reduceEqDiff, Nat.reduceAdd, Nat.reduceSub, Nat.reduceMul, Nat.reduceLeDiff, Nat.reduceLT, Nat.reduceBEq, reduceIte, ea]
  refine pcallK_intro (fn56 b) (by simp only [go_sem, Nat.reduceEqDiff, Nat.reduceAdd, Nat.reduceSub, Nat.reduceMul, Nat.reduceLeDiff, Nat.reduceLT, Nat.reduceBEq, reduceIte, ea]) ?_
  simp only [go_sem, Nat.reduceEqDiff, Nat.reduceAdd, Nat.reduceSub, Nat.reduceMul, Nat.reduceLeDiff, Nat.reduceLT, Nat.reduceBEq, reduceIte, ea]
  refine pcallK_intro (fn36 a (notS b) hlen) (by simp only [go_sem, Nat.reduceEqDiff, Nat.reduceAdd, Nat.reduceSub, Nat.reduceMul, Nat.reduceLeDiff, Nat.reduceLT, Nat.reduceBEq, reduceIte, ea]) ?_
  simp only [go_sem, Nat.reduceEqDiff, Nat.reduceAdd, Nat.reduceSub, Nat.reduceMul, Nat.reduceLeDiff, Nat.reduceLT, Nat.reduceBEq, reduceIte, ea]
  exact .same _

theorem fn39 (a b : NamesA) (hlen : a.list.length + b.list.length ≤ 900000) : Cn Try.prog 39 [aggV a.enc, aggV b.enc] (aggV (minusR a b).enc) := by
  refine Cn.of mixed Try.func39 rfl Try.call39 Try.ntmps39 Try.results39 (by simp) (by kernel_rfl) (by simp [aggV, refs_agg, refsL_data]) fun hfit => ?_
  have ea : ∀ s : NamesA, aggV s.enc = .agg [.d (.val (.bool s.all)), slV strV s.list] := fun s => rfl
  simp only [go_sem, Nat.reduceEqDiff, Nat.reduceAdd, Nat.reduceSub, Nat.reduceMul, Nat.reduceLeDiff, Nat.reduceLT, Nat.reduceBEq, reduceIte, ea]
  refine pcallK_intro (fn57 b) (by simp only [go_sem, Nat.reduceEqDiff, Nat.reduceAdd, Nat.reduceSub, Nat.reduceMul, Nat.reduceLeDiff, Nat.reduceLT, Nat.reduceBEq, reduceIte, ea]) ?_
  simp only [go_sem, Nat.reduceEqDiff, Nat.reduceAdd, Nat.reduceSub, Nat.reduceMul, Nat.reduceLeDiff, Nat.reduceLT, Nat.reduceBEq, reduceIte, ea]
  refine pcallK_intro (fn37 a (notS b) hlen) (by simp only [go_sem, Nat.reduceEqDiff, Nat.reduceAdd, Nat.reduceSub, Nat.reduceMul, Nat.reduceLeDiff, Nat.reduceLT, Nat.reduceBEq, reduceIte, ea]) ?_
  simp only [go_sem, Nat.reduceEqDiff, Nat.reduceAdd, Nat.reduceSub, Nat.reduceMul, Nat.reduceLeDiff, Nat.reduceLT, Nat.reduceBEq, reduceIte, ea]
  exact .same _
end Go.Proofs.Ytcgphoghmgeecaa
