/- The abstract layer, part W: values of Go's types as the layer has them, and plain laws of lists for loops. -/
import Derived.Test.YtngmfimpaembnaaGreatDoorIsoL
namespace Go.Iso
open Go Go.RowKit

abbrev u32V (x : Int) : List D := [.val (.int .u32 x)]
abbrev i64V (x : Int) : List D := [.val (.int .i64 x)]
abbrev strV (s : ByteArray) : List D := [.val (.string s)]
abbrev boolV (b : Bool) : V := .d (.val (.bool b))
abbrev intV (n : Int) : V := .d (.val (.int .i64 n))
abbrev slD {α : Type} (f : α → List D) (l : List α) : D := .sl (l.map f)
abbrev slV {α : Type} (f : α → List D) (l : List α) : V := .d (.sl (l.map f))

theorem fit_sl {α : Type} {f : α → List D} {l : List α} (h : D.fit (slD f l)) : l.length ≤ 9223372036854775807 := by
  unfold D.fit at h; simpa using h.1
theorem fit_str {s : ByteArray} (h : D.fit (.val (.string s))) : s.size ≤ 9223372036854775807 := by
  unfold D.fit okVal at h; simpa using h
theorem fitL_get : ∀ {r : List D}, D.fitL r → ∀ x ∈ r, D.fit x
  | [], _, x, hx => by cases hx
  | y :: r, h, x, hx => by
    unfold D.fitL at h
    rcases List.mem_cons.1 hx with rfl | hx
    · exact h.1
    · exact fitL_get h.2 x hx
theorem fitR_get : ∀ {xs : List (List D)}, D.fitR xs → ∀ r ∈ xs, D.fitL r
  | [], _, r, hr => by cases hr
  | y :: xs, h, r, hr => by
    unfold D.fitR at h
    rcases List.mem_cons.1 hr with rfl | hr
    · exact h.1
    · exact fitR_get h.2 r hr
theorem fit_row {α : Type} {f : α → List D} {l : List α} (h : D.fit (slD f l)) {x : α} (hx : x ∈ l) : D.fitL (f x) := by
  unfold D.fit at h; exact fitR_get h.2 _ (List.mem_map_of_mem hx)
theorem fitA_cons {x : D} {r : List V} (h : fitA (.d x :: r)) : D.fit x ∧ fitA r := by unfold fitA at h; exact h
theorem fitA_agg {cs r : List V} (h : fitA (.agg cs :: r)) : fitA cs ∧ fitA r := by unfold fitA at h; exact h

theorem take_succ_eq {α : Type} {xs ys : List α} {k : Nat} {x y : α} (hx : xs[k]? = some x) (hy : ys[k]? = some y) (h : xs.take k = ys.take k) (e : x = y) : xs.take (k + 1) = ys.take (k + 1) := by
  rw [List.take_add_one, List.take_add_one, hx, hy, h, e]
theorem take_ne {α : Type} {xs ys : List α} {k : Nat} {x y : α} (hx : xs[k]? = some x) (hy : ys[k]? = some y) (e : x ≠ y) : xs ≠ ys := by
  rintro rfl; rw [hx] at hy; cases hy; exact e rfl
theorem eq_of_take {α : Type} {xs ys : List α} {k : Nat} (hl : xs.length = ys.length) (hk : xs.length ≤ k) (h : xs.take k = ys.take k) : xs = ys := by
  rwa [List.take_of_length_le hk, List.take_of_length_le (by omega)] at h
theorem get_some {α : Type} {xs : List α} {k : Nat} (h : k < xs.length) : ∃ x, xs[k]? = some x := ⟨_, List.getElem?_eq_getElem h⟩
theorem sealV_bool {σ : Heap} {a b : Bool} (h : a = b) : SealV σ (.d (.val (.bool a))) (boolV b) := by rw [h]; exact .same _
theorem sealV_int {σ : Heap} {k : IntKind} {a b : Int} (h : a = b) : SealV σ (.d (.val (.int k a))) (.d (.val (.int k b))) := by rw [h]; exact .same _
theorem len_ne {m n : Nat} (h : ((m : Int) != (n : Int)) = true) : m ≠ n := by simp at h; omega
theorem len_eq {m n : Nat} (h : ((m : Int) != (n : Int)) = false) : m = n := by simp at h; omega
end Go.Iso
