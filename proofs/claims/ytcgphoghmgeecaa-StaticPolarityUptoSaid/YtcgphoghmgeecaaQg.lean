/- Part of the proof of a law: contracts of the functions that the law reaches, or plain laws of them, out of the abstract layer (the texts YtcgphoghmgeecaaIso..). No condition. -/
import Derived.Test.YtcgphoghmgeecaaQf
namespace Go.Proofs.Ytcgphoghmgeecaa
open Go Go.Iso Go.Proofs
set_option linter.unusedSimpArgs false
set_option linter.unusedVariables false
set_option maxRecDepth 100000
set_option maxHeartbeats 1000000

theorem bl_trans : ∀ {x y z : List UInt8}, Op.bytesLess x y = true → Op.bytesLess y z = true → Op.bytesLess x z = true
  | _, _, [], _, h => by cases ‹List UInt8› <;> simp [Op.bytesLess] at h
  | _, [], _ :: _, h, _ => by cases ‹List UInt8› <;> simp [Op.bytesLess] at h
  | [], _ :: _, _ :: _, _, _ => by simp [Op.bytesLess]
  | a :: x, b :: y, c :: z, h1, h2 => by
    simp only [Op.bytesLess, Bool.or_eq_true, decide_eq_true_eq, Bool.and_eq_true, beq_iff_eq] at h1 h2 ⊢
    rcases h1 with h1 | ⟨rfl, h1⟩ <;> rcases h2 with h2 | ⟨rfl, h2⟩
    · exact .inl (UInt8.lt_trans h1 h2)
    · exact .inl h1
    · exact .inl h2
    · exact .inr ⟨rfl, bl_trans h1 h2⟩
theorem bl_irrefl : ∀ x : List UInt8, Op.bytesLess x x = false
  | [] => rfl
  | a :: x => by simp [Op.bytesLess, bl_irrefl x]
theorem bl_total : ∀ x y : List UInt8, Op.bytesLess x y = true ∨ x = y ∨ Op.bytesLess y x = true
  | [], [] => .inr (.inl rfl)
  | [], _ :: _ => .inl rfl
  | _ :: _, [] => .inr (.inr rfl)
  | a :: x, b :: y => by
    simp only [Op.bytesLess, Bool.or_eq_true, decide_eq_true_eq, Bool.and_eq_true, beq_iff_eq]
    have tri : a < b ∨ b < a ∨ a = b := by
      rcases Nat.lt_trichotomy a.toNat b.toNat with h | h | h
      · exact .inl (UInt8.lt_iff_toNat_lt.2 h)
      · exact .inr (.inr (UInt8.toNat_inj.1 h))
      · exact .inr (.inl (UInt8.lt_iff_toNat_lt.2 h))
    rcases tri with h | h | rfl
    · exact .inl (.inl h)
    · exact .inr (.inr (.inl h))
    · rcases bl_total x y with h | rfl | h
      · exact .inl (.inr ⟨rfl, h⟩)
      · exact .inr (.inl rfl)
      · exact .inr (.inr (.inr ⟨rfl, h⟩))
theorem lt_trans' {x y z : ByteArray} (h : ltS x y = true) (k : ltS y z = true) : ltS x z = true := bl_trans h k
theorem lt_irrefl' (x : ByteArray) : ltS x x = false := bl_irrefl _
theorem lt_total (x y : ByteArray) : ltS x y = true ∨ x = y ∨ ltS y x = true := (bl_total x.toList y.toList).imp id (Or.imp (fun h => bytes_eq.1 (by rw [h]; simp)) id)
/-- Sorted, each once. -/
def SortedS (l : List ByteArray) : Prop := ∀ (i j : Nat) (x y : ByteArray), i < j → l[i]? = some x → l[j]? = some y → ltS x y = true
theorem sorted_of {l : List ByteArray} (h : ValidL l) : SortedS l := by
  intro i j x y hij hx hy
  obtain ⟨d, rfl⟩ : ∃ d, j = i + 1 + d := ⟨j - (i + 1), by omega⟩
  induction d generalizing y with
  | zero => exact (h _ y hy).2 i x rfl hx
  | succ d ih =>
    obtain ⟨z, hz⟩ := get_some (show i + 1 + d < l.length by have := (List.getElem?_eq_some_iff.1 hy).1; omega)
    exact lt_trans' (ih z (by omega) hz) ((h _ y hy).2 (i + 1 + d) z (by omega) hz)

/-- Where a string stands, or would stand. -/
def placeS (l : List ByteArray) (v : ByteArray) : Nat := (l.takeWhile fun x => ltS x v).length
theorem place_le {l : List ByteArray} {v : ByteArray} : placeS l v ≤ l.length := List.IsPrefix.length_le (List.takeWhile_prefix _)
theorem place_lt : ∀ {l : List ByteArray} {v : ByteArray} {i : Nat} {x : ByteArray}, i < placeS l v → l[i]? = some x → ltS x v = true
  | [], v, i, x, h, hx => by simp at hx
  | y :: l, v, i, x, h, hx => by
    unfold placeS at h
    by_cases hy : ltS y v = true
    · cases i with
      | zero => simp at hx; rw [← hx]; exact hy
      | succ i => exact place_lt (l := l) (i := i) (by rw [List.takeWhile_cons, if_pos hy] at h; simpa [placeS] using h) (by simpa using hx)
    · rw [List.takeWhile_cons, if_neg hy] at h; simp at h
theorem place_at : ∀ {l : List ByteArray} {v x : ByteArray}, l[placeS l v]? = some x → ltS x v = false
  | [], v, x, hx => by simp at hx
  | y :: l, v, x, hx => by
    unfold placeS at hx
    by_cases hy : ltS y v = true
    · rw [List.takeWhile_cons, if_pos hy] at hx; exact place_at (l := l) (by simpa [placeS] using hx)
    · rw [List.takeWhile_cons, if_neg hy] at hx; simp at hx; rw [← hx]; simpa using hy
theorem place_ge {l : List ByteArray} {v : ByteArray} (hs : SortedS l) {i : Nat} {x : ByteArray} (h : placeS l v ≤ i) (hx : l[i]? = some x) : ltS x v = false := by
  obtain ⟨y, hy⟩ := get_some (show placeS l v < l.length by have := (List.getElem?_eq_some_iff.1 hx).1; omega)
  have h1 := place_at hy
  rcases Nat.lt_or_eq_of_le h with h | h
  · cases hc : ltS x v with
    | false => rfl
    | true => rw [lt_trans' (hs _ _ _ _ h hy hx) hc] at h1; cases h1
  · rw [← h, hy] at hx; cases hx; exact h1
theorem mem_place {l : List ByteArray} {v : ByteArray} (hs : SortedS l) : v ∈ l ↔ l[placeS l v]? = some v := by
  constructor
  · intro h
    obtain ⟨i, hi⟩ := List.getElem?_of_mem h
    rcases Nat.lt_or_ge i (placeS l v) with h1 | h1
    · have := place_lt h1 hi; rw [lt_irrefl'] at this; cases this
    · rcases Nat.lt_or_eq_of_le h1 with h2 | h2
      · obtain ⟨y, hy⟩ := get_some (show placeS l v < l.length by have := (List.getElem?_eq_some_iff.1 hi).1; omega)
        have := hs _ _ _ _ h2 hy hi
        rw [place_at hy] at this; cases this
      · rw [h2]; exact hi
  · exact fun h => List.mem_of_getElem? h

theorem cv1 (n : Int) : cvOf Try.prog 3 73 (.int .i64 n) = some (.int .u64 (IntKind.wrap .u64 n)) := by kernel_rfl
theorem cv2 (n : Int) : cvOf Try.prog 73 3 (.int .u64 n) = some (.int .i64 (IntKind.wrap .i64 n)) := by kernel_rfl
theorem wrap_u64 {a : Int} (h1 : 0 ≤ a) (h2 : a ≤ 9223372036854775807) : IntKind.wrap .u64 a = a := by
  simp only [IntKind.wrap, IntKind.bits, IntKind.signed, Bool.false_and]
  simp; omega

theorem fn52 (l : List ByteArray) (v : ByteArray) (i : Nat) (x : ByteArray) (hx : l[i]? = some x) : Cn Try.prog 52 [intV i, .iptr [slD strV l], .iptr [.val (.string v)]] (boolV (!ltS x v)) := by
  refine Cn.of mixed Try.func52 rfl Try.call52 Try.ntmps52 Try.results52 (by simp) (by kernel_rfl) trivial fun hfit => ?_
  simp only [go_sem, Nat.reduceEqDiff, Nat.reduceAdd, Nat.reduceSub, Nat.reduceMul, Nat.reduceLeDiff, Nat.reduceLT, Nat.reduceBEq, reduceIte, hx]
  exact .same _

theorem fn51 (n r : Nat) (F : FuncId) (ca cb : List D) (p : Nat → Bool) (hn : n ≤ 1000000) (hF : ∀ i : Nat, i < n → Cn Try.prog F [intV i, .iptr ca, .iptr cb] (boolV (p i))) (hr : r ≤ n) (h0 : ∀ i, i < r → p i = false) (h1 : ∀ i, r ≤ i → i < n → p i = true) :
    Cn Try.prog 51 [intV n, .fn F [.iptr ca, .iptr cb]] (intV r) := by
  refine Cn.of mixed Try.func51 rfl Try.call51 Try.ntmps51 Try.results51 (by simp) (by kernel_rfl) trivial fun hfit => ?_
  simp only [go_sem, Nat.reduceEqDiff, Nat.reduceAdd, Nat.reduceSub, Nat.reduceMul, Nat.reduceLeDiff, Nat.reduceLT, Nat.reduceBEq, reduceIte]
  refine AW.roundsR mixed (by kernel_rfl) (fun x : Nat × Nat => [(1, .fn F [.iptr ca, .iptr cb]), (5, intV x.1), (6, intV x.2)]) (fun _ => []) (fun x => x.1 ≤ r ∧ r ≤ x.2 ∧ x.2 ≤ n) (fun x => x.2 - x.1) (0, n) [] ⟨Nat.zero_le _, hr, Nat.le_refl _⟩ ?_ ?_
  · simp only [go_sem, Nat.reduceEqDiff, Nat.reduceAdd, Nat.reduceSub, Nat.reduceMul, Nat.reduceLeDiff, Nat.reduceLT, Nat.reduceBEq, reduceIte]; simp
  rintro ⟨i, j⟩ ⟨hi, hj, hjn⟩
  simp only at hi hj hjn
  simp only [go_sem, Nat.reduceEqDiff, Nat.reduceAdd, Nat.reduceSub, Nat.reduceMul, Nat.reduceLeDiff, Nat.reduceLT, Nat.reduceBEq, reduceIte]
  refine splitK_intro (fun h => ?_) (fun h => ?_)
  · have hij : i < j := by simpa using h
    have e1 : IntKind.wrap .i64 ((i : Int) + (j : Int)) = ((i + j : Nat) : Int) := by rw [wrap_i64 (by omega) (by omega)]; omega
    have e2 : IntKind.wrap .u64 ((i + j : Nat) : Int) = ((i + j : Nat) : Int) := wrap_u64 (by omega) (by omega)
    have e3 : ((i + j : Nat) : Int).fdiv 2 = (((i + j) / 2 : Nat) : Int) := by rw [Int.fdiv_eq_ediv_of_nonneg _ (by omega)]; omega
    have e4 : IntKind.wrap .i64 (((i + j) / 2 : Nat) : Int) = (((i + j) / 2 : Nat) : Int) := wrap_i64 (by omega) (by omega)
    simp only [go_sem, Nat.reduceEqDiff, Nat.reduceAdd, Nat.reduceSub, Nat.reduceMul, Nat.reduceLeDiff, Nat.reduceLT, Nat.reduceBEq, reduceIte, h, e1, e2, e3, e4, cv1, cv2]
    refine callK_pure (hF ((i + j) / 2) (by omega)) (by simp only [go_sem, Nat.reduceEqDiff, Nat.reduceAdd, Nat.reduceSub, Nat.reduceMul, Nat.reduceLeDiff, Nat.reduceLT, Nat.reduceBEq, reduceIte]) ?_
    simp only [go_sem, Nat.reduceEqDiff, Nat.reduceAdd, Nat.reduceSub, Nat.reduceMul, Nat.reduceLeDiff, Nat.reduceLT, Nat.reduceBEq, reduceIte]
    refine splitK_intro (fun h2 => ?_) (fun h2 => ?_)
    · have h2' : p ((i + j) / 2) = false := by simpa using h2
      simp only [go_sem, Nat.reduceEqDiff, Nat.reduceAdd, Nat.reduceSub, Nat.reduceMul, Nat.reduceLeDiff, Nat.reduceLT, Nat.reduceBEq, reduceIte, h2]
      refine RoundQ.mk ((i + j) / 2 + 1, j) [] ⟨?_, hj, hjn⟩ (by simp only; omega) ?_
      · rcases Nat.lt_or_ge ((i + j) / 2) r with h3 | h3
        · exact h3
        · rw [h1 _ h3 (by omega)] at h2'; cases h2'
      · simp only [go_sem, Nat.reduceEqDiff, Nat.reduceAdd, Nat.reduceSub, Nat.reduceMul, Nat.reduceLeDiff, Nat.reduceLT, Nat.reduceBEq, reduceIte]
        rw [wrapN (by omega)]
    · have h2' : p ((i + j) / 2) = true := by simpa using h2
      simp only [go_sem, Nat.reduceEqDiff, Nat.reduceAdd, Nat.reduceSub, Nat.reduceMul, Nat.reduceLeDiff, Nat.reduceLT, Nat.reduceBEq, reduceIte, h2]
      refine RoundQ.mk (i, (i + j) / 2) [] ⟨hi, ?_, by simp only; omega⟩ (by simp only; omega) ?_
      · rcases Nat.lt_or_ge ((i + j) / 2) r with h3 | h3
        · rw [h0 _ h3] at h2'; cases h2'
        · exact h3
      · simp only [go_sem, Nat.reduceEqDiff, Nat.reduceAdd, Nat.reduceSub, Nat.reduceMul, Nat.reduceLeDiff, Nat.reduceLT, Nat.reduceBEq, reduceIte]
  · have hij : ¬ i < j := by simpa using h
    simp only [go_sem, Nat.reduceEqDiff, Nat.reduceAdd, Nat.reduceSub, Nat.reduceMul, Nat.reduceLeDiff, Nat.reduceLT, Nat.reduceBEq, reduceIte, h]
    exact sealV_int (by omega)

theorem fn31 (l : List ByteArray) (v : ByteArray) (hs : SortedS l) (hl : l.length ≤ 1000000) : Cn Try.prog 31 [slV strV l, .d (.val (.string v))] (intV (placeS l v)) := by
  refine Cn.of mixed Try.func31 rfl Try.call31 Try.ntmps31 Try.results31 (by simp) (by kernel_rfl) trivial fun hfit => ?_
  simp only [go_sem, Nat.reduceEqDiff, Nat.reduceAdd, Nat.reduceSub, Nat.reduceMul, Nat.reduceLeDiff, Nat.reduceLT, Nat.reduceBEq, reduceIte]
  have hp : ∀ (i : Nat) (x : ByteArray), l[i]? = some x → ((l[i]?.map fun x => !ltS x v).getD true) = !ltS x v := fun i x h => by rw [h]; rfl
  have h51 := fn51 l.length (placeS l v) 52 [slD strV l] [.val (.string v)] (fun i => (l[i]?.map fun x => !ltS x v).getD true) hl (fun i hi => by
      obtain ⟨x, hx⟩ := get_some hi
      rw [hp i x hx]; exact fn52 l v i x hx) place_le (fun i hi => by
      obtain ⟨x, hx⟩ := get_some (show i < l.length by have := place_le (l := l) (v := v); omega)
      rw [hp i x hx, place_lt hi hx]; rfl) fun i hi hil => by
      obtain ⟨x, hx⟩ := get_some hil
      rw [hp i x hx, place_ge hs hi hx]; rfl
  refine callK_look h51 ⟨.same _, .fnL ⟨.ptr rfl rfl rfl rfl fun j hj hj' => ?_, .ptr rfl rfl rfl rfl fun j hj hj' => ?_, trivial⟩, trivial⟩ (by simp only [go_sem, Nat.reduceEqDiff, Nat.reduceAdd, Nat.reduceSub, Nat.reduceMul, Nat.reduceLeDiff, Nat.reduceLT, Nat.reduceBEq, reduceIte]) trivial ?_
  · have : j = 0 := by simp at hj; exact hj
    subst this; exact .d _
  · have : j = 0 := by simp at hj; exact hj
    subst this; exact .d _
  simp only [go_sem, Nat.reduceEqDiff, Nat.reduceAdd, Nat.reduceSub, Nat.reduceMul, Nat.reduceLeDiff, Nat.reduceLT, Nat.reduceBEq, reduceIte]
  exact .same _

theorem fn10 (s : NamesA) (v : ByteArray) (hs : SortedS s.list) (hl : s.list.length ≤ 1000000) : Cn Try.prog 10 [aggV s.enc, .d (.val (.string v))] (boolV (pB (v ∈ s.list) != s.all)) := by
  refine Cn.of mixed Try.func10 rfl Try.call10 Try.ntmps10 Try.results10 (by simp) (by kernel_rfl) trivial fun hfit => ?_
  simp only [go_sem, Nat.reduceEqDiff, Nat.reduceAdd, Nat.reduceSub, Nat.reduceMul, Nat.reduceLeDiff, Nat.reduceLT, Nat.reduceBEq, reduceIte, ea]
  refine callK_pure (fn31 s.list v hs hl) (by simp only [go_sem, Nat.reduceEqDiff, Nat.reduceAdd, Nat.reduceSub, Nat.reduceMul, Nat.reduceLeDiff, Nat.reduceLT, Nat.reduceBEq, reduceIte]) ?_
  simp only [go_sem, Nat.reduceEqDiff, Nat.reduceAdd, Nat.reduceSub, Nat.reduceMul, Nat.reduceLeDiff, Nat.reduceLT, Nat.reduceBEq, reduceIte, ea]
  refine splitK_intro (fun h1 => ?_) (fun h1 => ?_)
  · have h1' : placeS s.list v < s.list.length := by simpa using h1
    obtain ⟨x, hx⟩ := get_some h1'
    simp only [go_sem, Nat.reduceEqDiff, Nat.reduceAdd, Nat.reduceSub, Nat.reduceMul, Nat.reduceLeDiff, Nat.reduceLT, Nat.reduceBEq, reduceIte, h1, hx, ea]
    refine sealV_bool ?_
    have : (x.toList == v.toList) = pB (v ∈ s.list) := by
      rw [Bool.eq_iff_iff, pB_true, mem_place hs, hx]
      exact str_eq.trans ⟨fun h => by rw [h], fun h => Option.some.inj h⟩
    rw [this]; rfl
  · have h1' : ¬ placeS s.list v < s.list.length := by simpa using h1
    simp only [go_sem, Nat.reduceEqDiff, Nat.reduceAdd, Nat.reduceSub, Nat.reduceMul, Nat.reduceLeDiff, Nat.reduceLT, Nat.reduceBEq, reduceIte, h1, ea]
    refine sealV_bool ?_
    have : pB (v ∈ s.list) = false := pB_false.2 (by rw [mem_place hs, List.getElem?_eq_none (by omega)]; simp)
    rw [this]; rfl

theorem fn11 (s : NamesA) (v : ByteArray) : Cn Try.prog 11 [aggV s.enc, .d (.val (.string v))] (boolV (pB (v ∈ s.list) != s.all)) := by
  refine Cn.of mixed Try.func11 rfl Try.call11 Try.ntmps11 Try.results11 (by simp) (by kernel_rfl) trivial fun hfit => ?_
  simp only [go_sem, Nat.reduceEqDiff, Nat.reduceAdd, Nat.reduceSub, Nat.reduceMul, Nat.reduceLeDiff, Nat.reduceLT, Nat.reduceBEq, reduceIte, ea]
  refine pcallK_intro (fn32 s.list v) (by simp only [go_sem, Nat.reduceEqDiff, Nat.reduceAdd, Nat.reduceSub, Nat.reduceMul, Nat.reduceLeDiff, Nat.reduceLT, Nat.reduceBEq, reduceIte]) ?_
  simp only [go_sem, Nat.reduceEqDiff, Nat.reduceAdd, Nat.reduceSub, Nat.reduceMul, Nat.reduceLeDiff, Nat.reduceLT, Nat.reduceBEq, reduceIte, ea]
  exact .same _
end Go.Proofs.Ytcgphoghmgeecaa
