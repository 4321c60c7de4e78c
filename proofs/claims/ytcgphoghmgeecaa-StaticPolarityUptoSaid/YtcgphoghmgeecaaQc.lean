/- Part of the proof of a law: contracts of the functions that the law reaches, or plain laws of them, out of the abstract layer (the texts YtcgphoghmgeecaaIso..). No condition. -/
import Derived.Test.YtcgphoghmgeecaaQb
namespace Go.Proofs.Ytcgphoghmgeecaa
open Go Go.Iso Go.Proofs
set_option linter.unusedSimpArgs false
set_option linter.unusedVariables false
set_option maxRecDepth 100000
set_option maxHeartbeats 1000000

abbrev strs (l : List ByteArray) : List (List V) := (l.map strV).map (·.map .d)
theorem str_eq {a b : ByteArray} : (a.toList == b.toList) = true ↔ a = b := by rw [bytes_eq]
theorem strs_snoc {l : List ByteArray} {x : ByteArray} : strs (l ++ [x]) = strs l ++ [[V.d (.val (.string x))]] := by simp [strs]

theorem wrapN {k : Nat} (h : k < 9223372036854775807) : IntKind.wrap .i64 ((k : Int) + 1) = ((k + 1 : Nat) : Int) := by rw [wrap_i64 (by omega) (by omega)]; rfl
theorem accNew {rl : List Nat} {m : Nat} {l : List ByteArray} {x : ByteArray} : (some (Own.mk 1 (strs l ++ [[V.d (.val (.string x))]])) = some ⟨1, renRows rl (strs l ++ [[V.d (.val (.string x))]])⟩) ∧ okRows m (strs l ++ [[V.d (.val (.string x))]]) := by
  rw [← strs_snoc, renRows_data]; exact ⟨rfl, okRows_data⟩
theorem accOld {m : Nat} {l : List ByteArray} (h : strs l ≠ []) : accO 1 (strs l) = some ⟨1, strs l⟩ ∧ okRows m (strs l) := ⟨accO_some h, okRows_data⟩

theorem fn32 (l : List ByteArray) (v : ByteArray) : Cn Try.prog 32 [slV strV l, .d (.val (.string v))] (boolV (pB (v ∈ l))) := by
  refine Cn.of mixed Try.func32 rfl Try.call32 Try.ntmps32 Try.results32 (by simp) (by kernel_rfl) trivial fun hfit => ?_
  have hm := fit_sl (fitA_cons hfit).1
  simp only [go_sem, Nat.reduceEqDiff, Nat.reduceAdd, Nat.reduceSub, Nat.reduceMul, Nat.reduceLeDiff, Nat.reduceLT, Nat.reduceBEq, reduceIte]
  refine AW.roundsR mixed (by kernel_rfl) (fun k : Nat => [(0, slV strV l), (1, .d (.val (.string v))), (5, intV k)]) (fun _ => []) (fun k => k ≤ l.length ∧ v ∉ l.take k) (fun k => l.length - k) 0 [] ⟨Nat.zero_le _, by simp⟩ ?_ ?_
  · simp only [go_sem, Nat.reduceEqDiff, Nat.reduceAdd, Nat.reduceSub, Nat.reduceMul, Nat.reduceLeDiff, Nat.reduceLT, Nat.reduceBEq, reduceIte]; simp
  rintro k ⟨hk, ht⟩
  simp only [go_sem, Nat.reduceEqDiff, Nat.reduceAdd, Nat.reduceSub, Nat.reduceMul, Nat.reduceLeDiff, Nat.reduceLT, Nat.reduceBEq, reduceIte]
  refine splitK_intro (fun h => ?_) (fun h => ?_)
  · simp only [decide_eq_true_eq, Int.ofNat_lt] at h
    obtain ⟨x, hx⟩ := get_some h
    simp only [go_sem, Nat.reduceEqDiff, Nat.reduceAdd, Nat.reduceSub, Nat.reduceMul, Nat.reduceLeDiff, Nat.reduceLT, Nat.reduceBEq, reduceIte, hx]
    refine splitK_intro (fun h1 => ?_) (fun h1 => ?_)
    · simp only [go_sem, Nat.reduceEqDiff, Nat.reduceAdd, Nat.reduceSub, Nat.reduceMul, Nat.reduceLeDiff, Nat.reduceLT, Nat.reduceBEq, reduceIte, h1]
      exact yesP (by rw [← str_eq.1 h1]; exact List.mem_of_getElem? hx)
    · simp only [go_sem, Nat.reduceEqDiff, Nat.reduceAdd, Nat.reduceSub, Nat.reduceMul, Nat.reduceLeDiff, Nat.reduceLT, Nat.reduceBEq, reduceIte, h1]
      refine RoundQ.mk (k + 1) [] ⟨by omega, ?_⟩ (by omega) ?_
      · rw [List.take_add_one, hx]
        have : v ≠ x := fun e => by rw [e] at h1; rw [str_eq.2 rfl] at h1; cases h1
        simp [ht, this]
      · simp only [go_sem, Nat.reduceEqDiff, Nat.reduceAdd, Nat.reduceSub, Nat.reduceMul, Nat.reduceLeDiff, Nat.reduceLT, Nat.reduceBEq, reduceIte]
        rw [wrap_i64 (by omega) (by omega)]; simp
  · simp only [go_sem, Nat.reduceEqDiff, Nat.reduceAdd, Nat.reduceSub, Nat.reduceMul, Nat.reduceLeDiff, Nat.reduceLT, Nat.reduceBEq, reduceIte, h]
    rw [List.take_of_length_le (by have := of_decide_eq_false h; omega)] at ht
    exact noP ht

noncomputable def keptS (a b : List ByteArray) (has : Bool) : List ByteArray := a.filter fun x => pB (x ∈ b) == has
theorem fn54 (a b : List ByteArray) (has : Bool) (hlen : a.length ≤ 1000000) : Cn Try.prog 54 [slV strV a, slV strV b, boolV has] (slV strV (keptS a b has)) := by
  refine Cn.of mixed Try.func54 rfl Try.call54 Try.ntmps54 Try.results54 (by simp) (by kernel_rfl) trivial fun hfit => ?_
  simp only [go_sem, Nat.reduceEqDiff, Nat.reduceAdd, Nat.reduceSub, Nat.reduceMul, Nat.reduceLeDiff, Nat.reduceLT, Nat.reduceBEq, reduceIte]
  refine AW.roundsR mixed (by kernel_rfl) (fun k : Nat => [(0, slV strV a), (1, slV strV b), (2, boolV has), (7, accV 0 1 (strs (keptS (a.take k) b has))), (8, intV k)]) (fun k => [accO 1 (strs (keptS (a.take k) b has))]) (fun k => k ≤ a.length) (fun k => a.length - k) 0 [0] (Nat.zero_le _) ?_ ?_
  · simp only [go_sem, Nat.reduceEqDiff, Nat.reduceAdd, Nat.reduceSub, Nat.reduceMul, Nat.reduceLeDiff, Nat.reduceLT, Nat.reduceBEq, reduceIte]; simp [keptS, accV, refs_d, renV_d, inO_acc]
  rintro k hk
  simp only [go_sem, Nat.reduceEqDiff, Nat.reduceAdd, Nat.reduceSub, Nat.reduceMul, Nat.reduceLeDiff, Nat.reduceLT, Nat.reduceBEq, reduceIte]
  refine splitK_intro (fun h => ?_) (fun h => ?_)
  · simp only [decide_eq_true_eq, Int.ofNat_lt] at h
    obtain ⟨x, hx⟩ := get_some h
    simp only [go_sem, Nat.reduceEqDiff, Nat.reduceAdd, Nat.reduceSub, Nat.reduceMul, Nat.reduceLeDiff, Nat.reduceLT, Nat.reduceBEq, reduceIte, hx]
    refine callK_pure (fn32 b x) (by simp only [go_sem, Nat.reduceEqDiff, Nat.reduceAdd, Nat.reduceSub, Nat.reduceMul, Nat.reduceLeDiff, Nat.reduceLT, Nat.reduceBEq, reduceIte]) ?_
    simp only [go_sem, Nat.reduceEqDiff, Nat.reduceAdd, Nat.reduceSub, Nat.reduceMul, Nat.reduceLeDiff, Nat.reduceLT, Nat.reduceBEq, reduceIte, hx]
    refine splitK_intro (fun h1 => ?_) (fun h1 => ?_)
    · simp only [go_sem, Nat.reduceEqDiff, Nat.reduceAdd, Nat.reduceSub, Nat.reduceMul, Nat.reduceLeDiff, Nat.reduceLT, Nat.reduceBEq, reduceIte, h1, hx]
      refine app_acc rfl rfl rfl (by simp) (by simp) rowsOne_data (by simp; have : (keptS (a.take k) b has).length ≤ (a.take k).length := List.length_filter_le _ _; simp at this; omega) ?_
      simp only [go_sem, Nat.reduceEqDiff, Nat.reduceAdd, Nat.reduceSub, Nat.reduceMul, Nat.reduceLeDiff, Nat.reduceLT, Nat.reduceBEq, reduceIte]
      refine RoundQ.mk (k + 1) [19] (by omega) (by omega) ?_
      have e : keptS (a.take (k + 1)) b has = keptS (a.take k) b has ++ [x] := by rw [List.take_add_one, hx]; simp [keptS, h1]
      rw [e, strs_snoc]
      simp only [go_sem, Nat.reduceEqDiff, Nat.reduceAdd, Nat.reduceSub, Nat.reduceMul, Nat.reduceLeDiff, Nat.reduceLT, Nat.reduceBEq, reduceIte]
      exact ⟨⟨fun _ => trivial, by rw [wrapN (by omega)]⟩, fun _ => accNew⟩
    · simp only [go_sem, Nat.reduceEqDiff, Nat.reduceAdd, Nat.reduceSub, Nat.reduceMul, Nat.reduceLeDiff, Nat.reduceLT, Nat.reduceBEq, reduceIte, h1]
      refine RoundQ.mk (k + 1) [0] (by omega) (by omega) ?_
      have e : keptS (a.take (k + 1)) b has = keptS (a.take k) b has := by rw [List.take_add_one, hx]; simp [keptS, h1]
      rw [e]
      simp only [go_sem, Nat.reduceEqDiff, Nat.reduceAdd, Nat.reduceSub, Nat.reduceMul, Nat.reduceLeDiff, Nat.reduceLT, Nat.reduceBEq, reduceIte]
      exact ⟨⟨fun _ => trivial, by rw [wrapN (by omega)]⟩, fun h => accOld h⟩
  · simp only [go_sem, Nat.reduceEqDiff, Nat.reduceAdd, Nat.reduceSub, Nat.reduceMul, Nat.reduceLeDiff, Nat.reduceLT, Nat.reduceBEq, reduceIte, h]
    rw [List.take_of_length_le (by have := of_decide_eq_false h; omega)]
    exact .d (.data rfl)

theorem accO_snoc {l : List ByteArray} {x : ByteArray} : accO 1 (strs (l ++ [x])) = some ⟨1, strs (l ++ [x])⟩ := accO_some (by simp)
theorem app_str {o id : Nat} {z : List V} {sq : Bool} {out : List ByteArray} {x : ByteArray} {σ : Heap} {L : V → Heap → Prop} (hsq : sq = true) (hσ : σ o = accO 1 (strs out)) (h8 : out.length ≤ 4000000)
    (k : L (accV id 1 (strs (out ++ [x]))) (upd (del σ o) id (some ⟨1, strs (out ++ [x])⟩))) : appK (some (1, 16, z)) sq σ id (accV o 1 (strs out)) (.d (.sl [[.val (.string x)]])) L := by
  rw [strs_snoc] at k
  exact app_acc hsq hσ rfl (by simp) (by simp) rowsOne_data (by simp; omega) k
/-! ### with: a string put into a sorted list -/
def ltS (a b : ByteArray) : Bool := Op.bytesLess a.toList b.toList
noncomputable def withStep (v : ByteArray) (s : List ByteArray × Bool) (x : ByteArray) : List ByteArray × Bool :=
  let o := if (!s.2 && !ltS x v) = true then s.1 ++ [v] else s.1
  (if x = v then o else o ++ [x], s.2 || !ltS x v)
noncomputable def withS (l : List ByteArray) (v : ByteArray) : List ByteArray :=
  let s := l.foldl (withStep v) ([], false)
  if s.2 = true then s.1 else s.1 ++ [v]
theorem withStep_len (v : ByteArray) : ∀ (l : List ByteArray) (s : List ByteArray × Bool), (l.foldl (withStep v) s).1.length ≤ s.1.length + 2 * l.length
  | [], s => by simp
  | x :: l, s => by
    have := withStep_len v l (withStep v s x)
    have h2 : (withStep v s x).1.length ≤ s.1.length + 2 := by
      simp only [withStep]; split <;> split <;> simp
    simp only [List.foldl_cons, List.length_cons]; omega

theorem fn71 (l : List ByteArray) (v : ByteArray) (hlen : l.length ≤ 1000000) : Cn Try.prog 71 [slV strV l, .d (.val (.string v))] (slV strV (withS l v)) := by
  refine Cn.of mixed Try.func71 rfl Try.call71 Try.ntmps71 Try.results71 (by simp) (by kernel_rfl) trivial fun hfit => ?_
  simp only [go_sem, Nat.reduceEqDiff, Nat.reduceAdd, Nat.reduceSub, Nat.reduceMul, Nat.reduceLeDiff, Nat.reduceLT, Nat.reduceBEq, reduceIte]
  refine AW.roundsR mixed (by kernel_rfl) (fun x : Nat × List ByteArray × Bool => [(0, slV strV l), (1, .d (.val (.string v))), (5, accV 0 1 (strs x.2.1)), (6, boolV x.2.2), (7, intV x.1)]) (fun x => [accO 1 (strs x.2.1)])
    (fun x => x.1 ≤ l.length ∧ (l.take x.1).foldl (withStep v) ([], false) = x.2) (fun x => l.length - x.1) (0, [], false) [0] ⟨Nat.zero_le _, rfl⟩ ?_ ?_
  · simp only [go_sem, Nat.reduceEqDiff, Nat.reduceAdd, Nat.reduceSub, Nat.reduceMul, Nat.reduceLeDiff, Nat.reduceLT, Nat.reduceBEq, reduceIte]; simp [accV, refs_d, renV_d, inO_acc]
  rintro ⟨k, out, put⟩ ⟨hk, ht⟩
  have hol : out.length ≤ 2 * l.length := by
    have := withStep_len v (l.take k) ([], false)
    simp only [ht, List.length_nil, List.length_take] at this
    have h2 : min k l.length ≤ l.length := Nat.min_le_right _ _
    omega
  simp only at hk
  simp only [go_sem, Nat.reduceEqDiff, Nat.reduceAdd, Nat.reduceSub, Nat.reduceMul, Nat.reduceLeDiff, Nat.reduceLT, Nat.reduceBEq, reduceIte]
  refine splitK_intro (fun h => ?_) (fun h => ?_)
  · simp only [decide_eq_true_eq, Int.ofNat_lt] at h
    obtain ⟨x, hx⟩ := get_some h
    have hs : (l.take (k + 1)).foldl (withStep v) ([], false) = withStep v (out, put) x := by rw [List.take_add_one, hx]; simp [List.foldl_append, ht]
    simp only [go_sem, Nat.reduceEqDiff, Nat.reduceAdd, Nat.reduceSub, Nat.reduceMul, Nat.reduceLeDiff, Nat.reduceLT, Nat.reduceBEq, reduceIte, hx]
    refine splitK_intro (fun h1 => ?_) (fun h1 => ?_)
    · have hp : put = false := by simpa using h1
      subst hp
      simp only [go_sem, Nat.reduceEqDiff, Nat.reduceAdd, Nat.reduceSub, Nat.reduceMul, Nat.reduceLeDiff, Nat.reduceLT, Nat.reduceBEq, reduceIte, hx]
      refine splitK_intro (fun h2 => ?_) (fun h2 => ?_)
      · have h2' : ltS x v = false := by simpa [ltS] using h2
        simp only [go_sem, Nat.reduceEqDiff, Nat.reduceAdd, Nat.reduceSub, Nat.reduceMul, Nat.reduceLeDiff, Nat.reduceLT, Nat.reduceBEq, reduceIte, h2, hx]
        refine app_str rfl rfl (by omega) ?_
        simp only [go_sem, Nat.reduceEqDiff, Nat.reduceAdd, Nat.reduceSub, Nat.reduceMul, Nat.reduceLeDiff, Nat.reduceLT, Nat.reduceBEq, reduceIte, hx]
        refine splitK_intro (fun h3 => ?_) (fun h3 => ?_)
        · have hxv : x ≠ v := fun e => by rw [e] at h3; simp at h3
          simp only [go_sem, Nat.reduceEqDiff, Nat.reduceAdd, Nat.reduceSub, Nat.reduceMul, Nat.reduceLeDiff, Nat.reduceLT, Nat.reduceBEq, reduceIte, h2, h3, hx]
          refine app_str rfl accO_snoc.symm (by simp; omega) ?_
          simp only [go_sem, Nat.reduceEqDiff, Nat.reduceAdd, Nat.reduceSub, Nat.reduceMul, Nat.reduceLeDiff, Nat.reduceLT, Nat.reduceBEq, reduceIte]
          refine RoundQ.mk (k + 1, (out ++ [v]) ++ [x], true) [33] ⟨by simp only; omega, by rw [hs]; simp [withStep, hxv, h2']⟩ (by simp only; omega) ?_
          simp only [go_sem, Nat.reduceEqDiff, Nat.reduceAdd, Nat.reduceSub, Nat.reduceMul, Nat.reduceLeDiff, Nat.reduceLT, Nat.reduceBEq, reduceIte]
          exact ⟨⟨fun _ => trivial, by rw [wrapN (by omega)]⟩, fun h => ⟨by simp [strs], okRows_data⟩⟩
        · have hxv : x = v := bytes_eq.1 (by simpa using h3)
          simp only [go_sem, Nat.reduceEqDiff, Nat.reduceAdd, Nat.reduceSub, Nat.reduceMul, Nat.reduceLeDiff, Nat.reduceLT, Nat.reduceBEq, reduceIte, h2, h3, hx]
          refine RoundQ.mk (k + 1, (out ++ [v]), true) [18] ⟨by simp only; omega, by rw [hs]; simp [withStep, hxv, (hxv ▸ h2' : ltS v v = _)]⟩ (by simp only; omega) ?_
          simp only [go_sem, Nat.reduceEqDiff, Nat.reduceAdd, Nat.reduceSub, Nat.reduceMul, Nat.reduceLeDiff, Nat.reduceLT, Nat.reduceBEq, reduceIte]
          exact ⟨⟨fun _ => trivial, by rw [wrapN (by omega)]⟩, fun h => ⟨by first | exact accO_some h | (simp [strs]; done), okRows_data⟩⟩
      · have h2' : ltS x v = true := by simpa [ltS] using h2
        simp only [go_sem, Nat.reduceEqDiff, Nat.reduceAdd, Nat.reduceSub, Nat.reduceMul, Nat.reduceLeDiff, Nat.reduceLT, Nat.reduceBEq, reduceIte, h2, hx]
        refine splitK_intro (fun h3 => ?_) (fun h3 => ?_)
        · have hxv : x ≠ v := fun e => by rw [e] at h3; simp at h3
          simp only [go_sem, Nat.reduceEqDiff, Nat.reduceAdd, Nat.reduceSub, Nat.reduceMul, Nat.reduceLeDiff, Nat.reduceLT, Nat.reduceBEq, reduceIte, h2, h3, hx]
          refine app_str rfl rfl (by omega) ?_
          simp only [go_sem, Nat.reduceEqDiff, Nat.reduceAdd, Nat.reduceSub, Nat.reduceMul, Nat.reduceLeDiff, Nat.reduceLT, Nat.reduceBEq, reduceIte]
          refine RoundQ.mk (k + 1, out ++ [x], false) [27] ⟨by simp only; omega, by rw [hs]; simp [withStep, hxv, h2']⟩ (by simp only; omega) ?_
          simp only [go_sem, Nat.reduceEqDiff, Nat.reduceAdd, Nat.reduceSub, Nat.reduceMul, Nat.reduceLeDiff, Nat.reduceLT, Nat.reduceBEq, reduceIte]
          exact ⟨⟨fun _ => trivial, by rw [wrapN (by omega)]⟩, fun h => ⟨by simp [strs], okRows_data⟩⟩
        · have hxv : x = v := bytes_eq.1 (by simpa using h3)
          simp only [go_sem, Nat.reduceEqDiff, Nat.reduceAdd, Nat.reduceSub, Nat.reduceMul, Nat.reduceLeDiff, Nat.reduceLT, Nat.reduceBEq, reduceIte, h2, h3, hx]
          refine RoundQ.mk (k + 1, out, false) [0] ⟨by simp only; omega, by rw [hs]; simp [withStep, hxv, (hxv ▸ h2' : ltS v v = _)]⟩ (by simp only; omega) ?_
          simp only [go_sem, Nat.reduceEqDiff, Nat.reduceAdd, Nat.reduceSub, Nat.reduceMul, Nat.reduceLeDiff, Nat.reduceLT, Nat.reduceBEq, reduceIte]
          exact ⟨⟨fun _ => trivial, by rw [wrapN (by omega)]⟩, fun h => ⟨by first | exact accO_some h | (simp [strs]; done), okRows_data⟩⟩
    · have hp : put = true := by simpa using h1
      subst hp
      simp only [go_sem, Nat.reduceEqDiff, Nat.reduceAdd, Nat.reduceSub, Nat.reduceMul, Nat.reduceLeDiff, Nat.reduceLT, Nat.reduceBEq, reduceIte, hx]
      refine splitK_intro (fun h3 => ?_) (fun h3 => ?_)
      · have hxv : x ≠ v := fun e => by rw [e] at h3; simp at h3
        simp only [go_sem, Nat.reduceEqDiff, Nat.reduceAdd, Nat.reduceSub, Nat.reduceMul, Nat.reduceLeDiff, Nat.reduceLT, Nat.reduceBEq, reduceIte, h1, h3, hx]
        refine app_str rfl rfl (by omega) ?_
        simp only [go_sem, Nat.reduceEqDiff, Nat.reduceAdd, Nat.reduceSub, Nat.reduceMul, Nat.reduceLeDiff, Nat.reduceLT, Nat.reduceBEq, reduceIte]
        refine RoundQ.mk (k + 1, out ++ [x], true) [27] ⟨by simp only; omega, by rw [hs]; simp [withStep, hxv]⟩ (by simp only; omega) ?_
        simp only [go_sem, Nat.reduceEqDiff, Nat.reduceAdd, Nat.reduceSub, Nat.reduceMul, Nat.reduceLeDiff, Nat.reduceLT, Nat.reduceBEq, reduceIte]
        exact ⟨⟨fun _ => trivial, by rw [wrapN (by omega)]⟩, fun h => ⟨by simp [strs], okRows_data⟩⟩
      · have hxv : x = v := bytes_eq.1 (by simpa using h3)
        simp only [go_sem, Nat.reduceEqDiff, Nat.reduceAdd, Nat.reduceSub, Nat.reduceMul, Nat.reduceLeDiff, Nat.reduceLT, Nat.reduceBEq, reduceIte, h1, h3, hx]
        refine RoundQ.mk (k + 1, out, true) [0] ⟨by simp only; omega, by rw [hs]; simp [withStep, hxv]⟩ (by simp only; omega) ?_
        simp only [go_sem, Nat.reduceEqDiff, Nat.reduceAdd, Nat.reduceSub, Nat.reduceMul, Nat.reduceLeDiff, Nat.reduceLT, Nat.reduceBEq, reduceIte]
        exact ⟨⟨fun _ => trivial, by rw [wrapN (by omega)]⟩, fun h => ⟨by first | exact accO_some h | (simp [strs]; done), okRows_data⟩⟩
  · have hk2 : k = l.length := by have := of_decide_eq_false h; omega
    subst hk2
    rw [List.take_of_length_le (Nat.le_refl _)] at ht
    simp only [go_sem, Nat.reduceEqDiff, Nat.reduceAdd, Nat.reduceSub, Nat.reduceMul, Nat.reduceLeDiff, Nat.reduceLT, Nat.reduceBEq, reduceIte, h]
    refine splitK_intro (fun h1 => ?_) (fun h1 => ?_)
    · have hp : put = false := by simpa using h1
      subst hp
      simp only [go_sem, Nat.reduceEqDiff, Nat.reduceAdd, Nat.reduceSub, Nat.reduceMul, Nat.reduceLeDiff, Nat.reduceLT, Nat.reduceBEq, reduceIte]
      refine app_str rfl rfl (by omega) ?_
      simp only [go_sem, Nat.reduceEqDiff, Nat.reduceAdd, Nat.reduceSub, Nat.reduceMul, Nat.reduceLeDiff, Nat.reduceLT, Nat.reduceBEq, reduceIte]
      have e : withS l v = out ++ [v] := by simp [withS, ht]
      rw [e]
      exact .d (.data accO_snoc.symm)
    · have hp : put = true := by simpa using h1
      subst hp
      simp only [go_sem, Nat.reduceEqDiff, Nat.reduceAdd, Nat.reduceSub, Nat.reduceMul, Nat.reduceLeDiff, Nat.reduceLT, Nat.reduceBEq, reduceIte]
      have e : withS l v = out := by simp [withS, ht]
      rw [e]
      exact .d (.data rfl)
end Go.Proofs.Ytcgphoghmgeecaa
