/- Part of the proof of a law: contracts of the functions that the law reaches, or plain laws of them, out of the abstract layer (the texts YtcgphoghmgeecaaIso..). No condition. -/
import Derived.Test.YtcgphoghmgeecaaQc
namespace Go.Proofs.Ytcgphoghmgeecaa
open Go Go.Iso Go.Proofs
set_option linter.unusedSimpArgs false
set_option linter.unusedVariables false
set_option maxRecDepth 100000
set_option maxHeartbeats 1000000


theorem withStep_len' (v : ByteArray) : ∀ (l : List ByteArray) (s : List ByteArray × Bool), (l.foldl (withStep v) s).1.length + (bif (l.foldl (withStep v) s).2 then 0 else 1) ≤ s.1.length + (bif s.2 then 0 else 1) + l.length
  | [], s => by simp
  | x :: l, s => by
    have h := withStep_len' v l (withStep v s x)
    have h2 : (withStep v s x).1.length + (bif (withStep v s x).2 then 0 else 1) ≤ s.1.length + (bif s.2 then 0 else 1) + 1 := by
      obtain ⟨o, p⟩ := s
      cases p <;> cases hl : ltS x v <;> by_cases hx : x = v <;> simp [withStep, hl, hx] <;> (try (rw [hx] at hl; simp [hl])) <;> (try omega)
    simp only [List.foldl_cons, List.length_cons]; omega
theorem withS_len {l : List ByteArray} {v : ByteArray} : (withS l v).length ≤ l.length + 1 := by
  have := withStep_len' v l ([], false)
  unfold withS
  simp only [List.length_nil, cond_false] at this ⊢
  split
  · next h => rw [h] at this; simp only [cond_true] at this; omega
  · next h => rw [Bool.not_eq_true] at h; rw [h] at this; simp only [cond_false] at this; simp only [List.length_append, List.length_cons, List.length_nil]; omega

noncomputable def bothS (a b : List ByteArray) : List ByteArray := b.foldl withS a
theorem bothS_len : ∀ (b a : List ByteArray), (bothS a b).length ≤ a.length + b.length
  | [], a => by simp [bothS]
  | x :: b, a => by
    have h1 := bothS_len b (withS a x)
    have h2 := withS_len (l := a) (v := x)
    have e : bothS a (x :: b) = bothS (withS a x) b := rfl
    rw [e, List.length_cons]; omega

theorem fn55 (a b : List ByteArray) (hlen : a.length + b.length ≤ 900000) : Cn Try.prog 55 [slV strV a, slV strV b] (slV strV (bothS a b)) := by
  refine Cn.of mixed Try.func55 rfl Try.call55 Try.ntmps55 Try.results55 (by simp) (by kernel_rfl) trivial fun hfit => ?_
  simp only [go_sem, Nat.reduceEqDiff, Nat.reduceAdd, Nat.reduceSub, Nat.reduceMul, Nat.reduceLeDiff, Nat.reduceLT, Nat.reduceBEq, reduceIte]
  refine AW.roundsR mixed (by kernel_rfl) (fun k : Nat => [(1, slV strV b), (5, slV strV (bothS a (b.take k))), (6, intV k)]) (fun _ => []) (fun k => k ≤ b.length) (fun k => b.length - k) 0 [] (Nat.zero_le _) ?_ ?_
  · simp only [go_sem, Nat.reduceEqDiff, Nat.reduceAdd, Nat.reduceSub, Nat.reduceMul, Nat.reduceLeDiff, Nat.reduceLT, Nat.reduceBEq, reduceIte]; simp [bothS]
  rintro k hk
  simp only [go_sem, Nat.reduceEqDiff, Nat.reduceAdd, Nat.reduceSub, Nat.reduceMul, Nat.reduceLeDiff, Nat.reduceLT, Nat.reduceBEq, reduceIte]
  refine splitK_intro (fun h => ?_) (fun h => ?_)
  · simp only [decide_eq_true_eq, Int.ofNat_lt] at h
    obtain ⟨x, hx⟩ := get_some h
    simp only [go_sem, Nat.reduceEqDiff, Nat.reduceAdd, Nat.reduceSub, Nat.reduceMul, Nat.reduceLeDiff, Nat.reduceLT, Nat.reduceBEq, reduceIte, hx]
    have hb := bothS_len (b.take k) a
    have h3 : (b.take k).length ≤ b.length := by rw [List.length_take]; exact Nat.min_le_right _ _
    refine callK_pure (fn71 (bothS a (b.take k)) x (by omega)) (by simp only [go_sem, Nat.reduceEqDiff, Nat.reduceAdd, Nat.reduceSub, Nat.reduceMul, Nat.reduceLeDiff, Nat.reduceLT, Nat.reduceBEq, reduceIte]) ?_
    simp only [go_sem, Nat.reduceEqDiff, Nat.reduceAdd, Nat.reduceSub, Nat.reduceMul, Nat.reduceLeDiff, Nat.reduceLT, Nat.reduceBEq, reduceIte]
    have e : withS (bothS a (b.take k)) x = bothS a (b.take (k + 1)) := by rw [List.take_add_one, hx]; simp [bothS, List.foldl_append]
    rw [e]
    refine RoundQ.mk (k + 1) [] (by omega) (by omega) ?_
    simp only [go_sem, Nat.reduceEqDiff, Nat.reduceAdd, Nat.reduceSub, Nat.reduceMul, Nat.reduceLeDiff, Nat.reduceLT, Nat.reduceBEq, reduceIte]
    rw [wrapN (by omega)]
  · simp only [go_sem, Nat.reduceEqDiff, Nat.reduceAdd, Nat.reduceSub, Nat.reduceMul, Nat.reduceLeDiff, Nat.reduceLT, Nat.reduceBEq, reduceIte, h]
    rw [List.take_of_length_le (by have := of_decide_eq_false h; omega)]
    exact .same _

/-! ### mix -/
def mixS (l bo r : Bool) : List ByteArray → List ByteArray → List ByteArray
  | [], [] => []
  | x :: a, [] => (if l = true then [x] else []) ++ mixS l bo r a []
  | [], y :: b => (if r = true then [y] else []) ++ mixS l bo r [] b
  | x :: a, y :: b =>
    if ltS x y = true then (if l = true then [x] else []) ++ mixS l bo r a (y :: b)
    else if ltS y x = true then (if r = true then [y] else []) ++ mixS l bo r (x :: a) b
    else (if bo = true then [x] else []) ++ mixS l bo r a b
termination_by a b => a.length + b.length
theorem drop_cons {α : Type} {l : List α} {k : Nat} {x : α} (h : l[k]? = some x) : l.drop k = x :: l.drop (k + 1) := by
  obtain ⟨hl, rfl⟩ := List.getElem?_eq_some_iff.1 h
  exact List.drop_eq_getElem_cons hl

theorem okRows_strs {m : Nat} {l : List ByteArray} : okRows m (strs l) := okRows_data
theorem fn53 (a b : List ByteArray) (l bo r : Bool) (hlen : a.length + b.length ≤ 1000000) : Cn Try.prog 53 [slV strV a, slV strV b, boolV l, boolV bo, boolV r] (slV strV (mixS l bo r a b)) := by
  refine Cn.of mixed Try.func53 rfl Try.call53 Try.ntmps53 Try.results53 (by simp) (by kernel_rfl) trivial fun hfit => ?_
  simp only [go_sem, Nat.reduceEqDiff, Nat.reduceAdd, Nat.reduceSub, Nat.reduceMul, Nat.reduceLeDiff, Nat.reduceLT, Nat.reduceBEq, reduceIte]
  refine AW.roundsR mixed (by kernel_rfl) (fun x : Nat × Nat × List ByteArray => [(0, slV strV a), (1, slV strV b), (2, boolV l), (3, boolV bo), (4, boolV r), (11, accV 0 1 (strs x.2.2)), (12, intV x.1), (13, intV x.2.1)]) (fun x => [accO 1 (strs x.2.2)])
    (fun x => x.1 ≤ a.length ∧ x.2.1 ≤ b.length ∧ x.2.2.length ≤ x.1 + x.2.1 ∧ x.2.2 ++ mixS l bo r (a.drop x.1) (b.drop x.2.1) = mixS l bo r a b) (fun x => a.length - x.1 + (b.length - x.2.1)) (0, 0, []) [0] ⟨Nat.zero_le _, Nat.zero_le _, Nat.zero_le _, rfl⟩ ?_ ?_
  · simp only [go_sem, Nat.reduceEqDiff, Nat.reduceAdd, Nat.reduceSub, Nat.reduceMul, Nat.reduceLeDiff, Nat.reduceLT, Nat.reduceBEq, reduceIte]; simp [accV, refs_d, renV_d, inO_acc]
  rintro ⟨i, j, out⟩ ⟨hi, hj, ho, hmix⟩
  simp only at hi hj ho hmix
  simp only [go_sem, Nat.reduceEqDiff, Nat.reduceAdd, Nat.reduceSub, Nat.reduceMul, Nat.reduceLeDiff, Nat.reduceLT, Nat.reduceBEq, reduceIte]
  by_cases hia : i < a.length
  · obtain ⟨x, hx⟩ := get_some hia
    have h1 : decide ((i : Int) < (a.length : Int)) = true := by simpa using hia
    have h1e : ((i : Int) == (a.length : Int)) = false := by simp; omega
    by_cases hjb : j < b.length
    · obtain ⟨y, hy⟩ := get_some hjb
      have h2e : ((j : Int) == (b.length : Int)) = false := by simp; omega
      simp only [go_sem, Nat.reduceEqDiff, Nat.reduceAdd, Nat.reduceSub, Nat.reduceMul, Nat.reduceLeDiff, Nat.reduceLT, Nat.reduceBEq, reduceIte, h1, h2e, hx, hy]
      refine splitK_intro (fun h3 => ?_) (fun h3 => ?_)
      · have hstep : mixS l bo r (a.drop i) (b.drop j) = (if l = true then [x] else []) ++ mixS l bo r (a.drop (i + 1)) (b.drop j) := by
          rw [drop_cons hx, drop_cons hy, mixS, if_pos (by exact h3)]
        simp only [go_sem, Nat.reduceEqDiff, Nat.reduceAdd, Nat.reduceSub, Nat.reduceMul, Nat.reduceLeDiff, Nat.reduceLT, Nat.reduceBEq, reduceIte, h1, h2e, h3, hx, hy]
        refine splitK_intro (fun hf => ?_) (fun hf => ?_)
        · subst hf
          simp only [go_sem, Nat.reduceEqDiff, Nat.reduceAdd, Nat.reduceSub, Nat.reduceMul, Nat.reduceLeDiff, Nat.reduceLT, Nat.reduceBEq, reduceIte, h1, h2e, h3, hx, hy]
          refine app_str rfl rfl (by omega) ?_
          simp only [go_sem, Nat.reduceEqDiff, Nat.reduceAdd, Nat.reduceSub, Nat.reduceMul, Nat.reduceLeDiff, Nat.reduceLT, Nat.reduceBEq, reduceIte, h1, h2e, h3]
          refine RoundQ.mk (i + 1, j, out ++ [x]) [40] ⟨by simp only; omega, by simp only; omega, by simp; omega, by rw [← hmix, hstep]; simp⟩ (by simp only; omega) ?_
          simp only [go_sem, Nat.reduceEqDiff, Nat.reduceAdd, Nat.reduceSub, Nat.reduceMul, Nat.reduceLeDiff, Nat.reduceLT, Nat.reduceBEq, reduceIte]
          exact ⟨⟨fun _ => trivial, by rw [wrapN (by omega)]⟩, fun h => ⟨by simp [strs], okRows_data⟩⟩
        · subst hf
          simp only [go_sem, Nat.reduceEqDiff, Nat.reduceAdd, Nat.reduceSub, Nat.reduceMul, Nat.reduceLeDiff, Nat.reduceLT, Nat.reduceBEq, reduceIte, h1, h2e, h3]
          refine RoundQ.mk (i + 1, j, out) [0] ⟨by simp only; omega, by simp only; omega, by simp only; omega, by rw [← hmix, hstep]; simp⟩ (by simp only; omega) ?_
          simp only [go_sem, Nat.reduceEqDiff, Nat.reduceAdd, Nat.reduceSub, Nat.reduceMul, Nat.reduceLeDiff, Nat.reduceLT, Nat.reduceBEq, reduceIte]
          exact ⟨⟨fun _ => trivial, by rw [wrapN (by omega)]⟩, fun h => ⟨accO_some h, okRows_data⟩⟩
      simp only [go_sem, Nat.reduceEqDiff, Nat.reduceAdd, Nat.reduceSub, Nat.reduceMul, Nat.reduceLeDiff, Nat.reduceLT, Nat.reduceBEq, reduceIte, h1, h1e, h2e, h3, hx, hy]
      refine splitK_intro (fun h4 => ?_) (fun h4 => ?_)
      · have hstep : mixS l bo r (a.drop i) (b.drop j) = (if r = true then [y] else []) ++ mixS l bo r (a.drop i) (b.drop (j + 1)) := by
          rw [drop_cons hx, drop_cons hy, mixS, if_neg (by rw [ltS, h3]; simp), if_pos (by exact h4)]
        simp only [go_sem, Nat.reduceEqDiff, Nat.reduceAdd, Nat.reduceSub, Nat.reduceMul, Nat.reduceLeDiff, Nat.reduceLT, Nat.reduceBEq, reduceIte, h1, h1e, h2e, h3, h4, hx, hy]
        refine splitK_intro (fun hf => ?_) (fun hf => ?_)
        · subst hf
          simp only [go_sem, Nat.reduceEqDiff, Nat.reduceAdd, Nat.reduceSub, Nat.reduceMul, Nat.reduceLeDiff, Nat.reduceLT, Nat.reduceBEq, reduceIte, h1, h1e, h2e, h3, h4, hx, hy]
          refine app_str rfl rfl (by omega) ?_
          simp only [go_sem, Nat.reduceEqDiff, Nat.reduceAdd, Nat.reduceSub, Nat.reduceMul, Nat.reduceLeDiff, Nat.reduceLT, Nat.reduceBEq, reduceIte, h1, h1e, h2e, h3, h4]
          refine RoundQ.mk (i, j + 1, out ++ [y]) [56] ⟨by simp only; omega, by simp only; omega, by simp; omega, by rw [← hmix, hstep]; simp⟩ (by simp only; omega) ?_
          simp only [go_sem, Nat.reduceEqDiff, Nat.reduceAdd, Nat.reduceSub, Nat.reduceMul, Nat.reduceLeDiff, Nat.reduceLT, Nat.reduceBEq, reduceIte]
          exact ⟨⟨fun _ => trivial, by rw [wrapN (by omega)]⟩, fun h => ⟨by simp [strs], okRows_data⟩⟩
        · subst hf
          simp only [go_sem, Nat.reduceEqDiff, Nat.reduceAdd, Nat.reduceSub, Nat.reduceMul, Nat.reduceLeDiff, Nat.reduceLT, Nat.reduceBEq, reduceIte, h1, h1e, h2e, h3, h4]
          refine RoundQ.mk (i, j + 1, out) [0] ⟨by simp only; omega, by simp only; omega, by simp only; omega, by rw [← hmix, hstep]; simp⟩ (by simp only; omega) ?_
          simp only [go_sem, Nat.reduceEqDiff, Nat.reduceAdd, Nat.reduceSub, Nat.reduceMul, Nat.reduceLeDiff, Nat.reduceLT, Nat.reduceBEq, reduceIte]
          exact ⟨⟨fun _ => trivial, by rw [wrapN (by omega)]⟩, fun h => ⟨accO_some h, okRows_data⟩⟩
      · have hstep : mixS l bo r (a.drop i) (b.drop j) = (if bo = true then [x] else []) ++ mixS l bo r (a.drop (i + 1)) (b.drop (j + 1)) := by
          rw [drop_cons hx, drop_cons hy, mixS, if_neg (by rw [ltS, h3]; simp), if_neg (by rw [ltS, h4]; simp)]
        simp only [go_sem, Nat.reduceEqDiff, Nat.reduceAdd, Nat.reduceSub, Nat.reduceMul, Nat.reduceLeDiff, Nat.reduceLT, Nat.reduceBEq, reduceIte, h1, h1e, h2e, h3, h4, hx, hy]
        refine splitK_intro (fun hf => ?_) (fun hf => ?_)
        · subst hf
          simp only [go_sem, Nat.reduceEqDiff, Nat.reduceAdd, Nat.reduceSub, Nat.reduceMul, Nat.reduceLeDiff, Nat.reduceLT, Nat.reduceBEq, reduceIte, h1, h1e, h2e, h3, h4, hx, hy]
          refine app_str rfl rfl (by omega) ?_
          simp only [go_sem, Nat.reduceEqDiff, Nat.reduceAdd, Nat.reduceSub, Nat.reduceMul, Nat.reduceLeDiff, Nat.reduceLT, Nat.reduceBEq, reduceIte, h1, h1e, h2e, h3, h4]
          refine RoundQ.mk (i + 1, j + 1, out ++ [x]) [56] ⟨by simp only; omega, by simp only; omega, by simp; omega, by rw [← hmix, hstep]; simp⟩ (by simp only; omega) ?_
          simp only [go_sem, Nat.reduceEqDiff, Nat.reduceAdd, Nat.reduceSub, Nat.reduceMul, Nat.reduceLeDiff, Nat.reduceLT, Nat.reduceBEq, reduceIte]
          exact ⟨⟨fun _ => trivial, by rw [wrapN (by omega), wrapN (by omega)]; exact ⟨rfl, rfl⟩⟩, fun h => ⟨by simp [strs], okRows_data⟩⟩
        · subst hf
          simp only [go_sem, Nat.reduceEqDiff, Nat.reduceAdd, Nat.reduceSub, Nat.reduceMul, Nat.reduceLeDiff, Nat.reduceLT, Nat.reduceBEq, reduceIte, h1, h1e, h2e, h3, h4]
          refine RoundQ.mk (i + 1, j + 1, out) [0] ⟨by simp only; omega, by simp only; omega, by simp only; omega, by rw [← hmix, hstep]; simp⟩ (by simp only; omega) ?_
          simp only [go_sem, Nat.reduceEqDiff, Nat.reduceAdd, Nat.reduceSub, Nat.reduceMul, Nat.reduceLeDiff, Nat.reduceLT, Nat.reduceBEq, reduceIte]
          exact ⟨⟨fun _ => trivial, by rw [wrapN (by omega), wrapN (by omega)]; exact ⟨rfl, rfl⟩⟩, fun h => ⟨accO_some h, okRows_data⟩⟩
    · have hj2 : j = b.length := by omega
      have h2e : ((j : Int) == (b.length : Int)) = true := by simp; omega
      have hy : True := trivial
      have hstep : mixS l bo r (a.drop i) (b.drop j) = (if l = true then [x] else []) ++ mixS l bo r (a.drop (i + 1)) (b.drop j) := by
        have eb : b.drop j = [] := List.drop_of_length_le (by omega)
        rw [drop_cons hx, eb, mixS]
      simp only [go_sem, Nat.reduceEqDiff, Nat.reduceAdd, Nat.reduceSub, Nat.reduceMul, Nat.reduceLeDiff, Nat.reduceLT, Nat.reduceBEq, reduceIte, h1, h2e, hx]
      refine splitK_intro (fun hf => ?_) (fun hf => ?_)
      · subst hf
        simp only [go_sem, Nat.reduceEqDiff, Nat.reduceAdd, Nat.reduceSub, Nat.reduceMul, Nat.reduceLeDiff, Nat.reduceLT, Nat.reduceBEq, reduceIte, h1, h2e, hx, hy]
        refine app_str rfl rfl (by omega) ?_
        simp only [go_sem, Nat.reduceEqDiff, Nat.reduceAdd, Nat.reduceSub, Nat.reduceMul, Nat.reduceLeDiff, Nat.reduceLT, Nat.reduceBEq, reduceIte, h1, h2e]
        refine RoundQ.mk (i + 1, j, out ++ [x]) [40] ⟨by simp only; omega, by simp only; omega, by simp; omega, by rw [← hmix, hstep]; simp⟩ (by simp only; omega) ?_
        simp only [go_sem, Nat.reduceEqDiff, Nat.reduceAdd, Nat.reduceSub, Nat.reduceMul, Nat.reduceLeDiff, Nat.reduceLT, Nat.reduceBEq, reduceIte]
        exact ⟨⟨fun _ => trivial, by rw [wrapN (by omega)]⟩, fun h => ⟨by simp [strs], okRows_data⟩⟩
      · subst hf
        simp only [go_sem, Nat.reduceEqDiff, Nat.reduceAdd, Nat.reduceSub, Nat.reduceMul, Nat.reduceLeDiff, Nat.reduceLT, Nat.reduceBEq, reduceIte, h1, h2e]
        refine RoundQ.mk (i + 1, j, out) [0] ⟨by simp only; omega, by simp only; omega, by simp only; omega, by rw [← hmix, hstep]; simp⟩ (by simp only; omega) ?_
        simp only [go_sem, Nat.reduceEqDiff, Nat.reduceAdd, Nat.reduceSub, Nat.reduceMul, Nat.reduceLeDiff, Nat.reduceLT, Nat.reduceBEq, reduceIte]
        exact ⟨⟨fun _ => trivial, by rw [wrapN (by omega)]⟩, fun h => ⟨accO_some h, okRows_data⟩⟩
  · have h1 : decide ((i : Int) < (a.length : Int)) = false := by simp; omega
    have h1e : ((i : Int) == (a.length : Int)) = true := by simp; omega
    have hx : True := trivial
    by_cases hjb : j < b.length
    · obtain ⟨y, hy⟩ := get_some hjb
      have h2 : decide ((j : Int) < (b.length : Int)) = true := by simpa using hjb
      have h2e : ((j : Int) == (b.length : Int)) = false := by simp; omega
      have hstep : mixS l bo r (a.drop i) (b.drop j) = (if r = true then [y] else []) ++ mixS l bo r (a.drop i) (b.drop (j + 1)) := by
        have ea : a.drop i = [] := List.drop_of_length_le (by omega)
        rw [drop_cons hy, ea, mixS]
      simp only [go_sem, Nat.reduceEqDiff, Nat.reduceAdd, Nat.reduceSub, Nat.reduceMul, Nat.reduceLeDiff, Nat.reduceLT, Nat.reduceBEq, reduceIte, h1, h1e, h2, h2e, hy]
      refine splitK_intro (fun hf => ?_) (fun hf => ?_)
      · subst hf
        simp only [go_sem, Nat.reduceEqDiff, Nat.reduceAdd, Nat.reduceSub, Nat.reduceMul, Nat.reduceLeDiff, Nat.reduceLT, Nat.reduceBEq, reduceIte, h1, h1e, h2, h2e, hx, hy]
        refine app_str rfl rfl (by omega) ?_
        simp only [go_sem, Nat.reduceEqDiff, Nat.reduceAdd, Nat.reduceSub, Nat.reduceMul, Nat.reduceLeDiff, Nat.reduceLT, Nat.reduceBEq, reduceIte, h1, h1e, h2, h2e]
        refine RoundQ.mk (i, j + 1, out ++ [y]) [56] ⟨by simp only; omega, by simp only; omega, by simp; omega, by rw [← hmix, hstep]; simp⟩ (by simp only; omega) ?_
        simp only [go_sem, Nat.reduceEqDiff, Nat.reduceAdd, Nat.reduceSub, Nat.reduceMul, Nat.reduceLeDiff, Nat.reduceLT, Nat.reduceBEq, reduceIte]
        exact ⟨⟨fun _ => trivial, by rw [wrapN (by omega)]⟩, fun h => ⟨by simp [strs], okRows_data⟩⟩
      · subst hf
        simp only [go_sem, Nat.reduceEqDiff, Nat.reduceAdd, Nat.reduceSub, Nat.reduceMul, Nat.reduceLeDiff, Nat.reduceLT, Nat.reduceBEq, reduceIte, h1, h1e, h2, h2e]
        refine RoundQ.mk (i, j + 1, out) [0] ⟨by simp only; omega, by simp only; omega, by simp only; omega, by rw [← hmix, hstep]; simp⟩ (by simp only; omega) ?_
        simp only [go_sem, Nat.reduceEqDiff, Nat.reduceAdd, Nat.reduceSub, Nat.reduceMul, Nat.reduceLeDiff, Nat.reduceLT, Nat.reduceBEq, reduceIte]
        exact ⟨⟨fun _ => trivial, by rw [wrapN (by omega)]⟩, fun h => ⟨accO_some h, okRows_data⟩⟩
    · have h2 : decide ((j : Int) < (b.length : Int)) = false := by simp; omega
      simp only [go_sem, Nat.reduceEqDiff, Nat.reduceAdd, Nat.reduceSub, Nat.reduceMul, Nat.reduceLeDiff, Nat.reduceLT, Nat.reduceBEq, reduceIte, h1, h2]
      have e : mixS l bo r a b = out := by
        rw [← hmix, List.drop_of_length_le (by omega), List.drop_of_length_le (by omega), mixS]; simp
      rw [e]
      exact .d (.data rfl)
end Go.Proofs.Ytcgphoghmgeecaa
