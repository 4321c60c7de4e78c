/- The abstract layer, part O: the order of words and of trees, as plain functions. -/
import Derived.Test.YtngmfimpaembnaaGreatDoorIsoN
namespace Go.Iso
open Go Go.RowKit

def sgn (b : Bool) : Int := if b then -1 else 1
theorem sgn_ne (b : Bool) : sgn b ≠ 0 := by cases b <;> simp [sgn]
/-- From the highest place downwards. -/
def cmpDown (xs ys : List Int) : Nat → Int
  | 0 => 0
  | k + 1 => if xs.getD k 0 = ys.getD k 0 then cmpDown xs ys k else sgn (decide (xs.getD k 0 < ys.getD k 0))
def cmpWords (xs ys : List Int) : Int := if xs.length = ys.length then cmpDown xs ys xs.length else sgn (decide (xs.length < ys.length))

theorem cmpDown_zero {xs ys : List Int} : ∀ k, cmpDown xs ys k = 0 ↔ ∀ i, i < k → xs.getD i 0 = ys.getD i 0
  | 0 => by simp [cmpDown]
  | k + 1 => by
    unfold cmpDown
    split
    · next h =>
      rw [cmpDown_zero k]
      constructor
      · intro hk i hi
        rcases Nat.lt_or_ge i k with h1 | h1
        · exact hk i h1
        · rw [show i = k by omega]; exact h
      · exact fun hk i hi => hk i (by omega)
    · next h => exact ⟨fun e => absurd e (sgn_ne _), fun hk => absurd (hk k (by omega)) h⟩
theorem cmpWords_zero {xs ys : List Int} : cmpWords xs ys = 0 ↔ xs = ys := by
  unfold cmpWords
  split
  · next h =>
    rw [cmpDown_zero]
    constructor
    · intro hk
      apply List.ext_getElem h
      intro i h1 h2
      have := hk i h1
      rwa [List.getD_eq_getElem?_getD, List.getD_eq_getElem?_getD, List.getElem?_eq_getElem h1, List.getElem?_eq_getElem h2] at this
    · rintro rfl; simp
  · next h => exact ⟨fun e => absurd e (sgn_ne _), fun e => absurd (by rw [e]) h⟩
theorem cmpDown_eq {xs ys : List Int} {k : Nat} {x y : Int} (hx : xs[k]? = some x) (hy : ys[k]? = some y) (e : x = y) : cmpDown xs ys (k + 1) = cmpDown xs ys k := by
  rw [cmpDown, List.getD_eq_getElem?_getD, List.getD_eq_getElem?_getD, hx, hy, if_pos (by simpa using e)]
theorem cmpDown_ne {xs ys : List Int} {k : Nat} {x y : Int} (hx : xs[k]? = some x) (hy : ys[k]? = some y) (e : x ≠ y) : cmpDown xs ys (k + 1) = sgn (decide (x < y)) := by
  rw [cmpDown, List.getD_eq_getElem?_getD, List.getD_eq_getElem?_getD, hx, hy, if_neg (by simpa using e)]; rfl

mutual
def NodeA.cmp : NodeA → NodeA → Int
  | .mk o n r ks, .mk o' n' r' ks' =>
    if o ≠ o' then sgn (decide (o < o')) else
    if n ≠ n' then sgn (Op.bytesLess n.toList n'.toList) else
    if r.neg ≠ r'.neg then sgn r'.neg else
    if cmpWords r.num r'.num ≠ 0 then cmpWords r.num r'.num else
    if cmpWords r.den r'.den ≠ 0 then cmpWords r.den r'.den else
    if ks.length ≠ ks'.length then sgn (decide (ks.length < ks'.length)) else NodeA.cmpL ks ks'
def NodeA.cmpL : List NodeA → List NodeA → Int
  | x :: xs, y :: ys => if NodeA.cmp x y ≠ 0 then NodeA.cmp x y else NodeA.cmpL xs ys
  | _, _ => 0
end
theorem cmpL_eq {xs ys : List NodeA} {k : Nat} {x y : NodeA} (hx : xs[k]? = some x) (hy : ys[k]? = some y) :
    NodeA.cmpL (xs.drop k) (ys.drop k) = if NodeA.cmp x y ≠ 0 then NodeA.cmp x y else NodeA.cmpL (xs.drop (k + 1)) (ys.drop (k + 1)) := by
  obtain ⟨h1, rfl⟩ := List.getElem?_eq_some_iff.1 hx
  obtain ⟨h2, rfl⟩ := List.getElem?_eq_some_iff.1 hy
  rw [List.drop_eq_getElem_cons h1, List.drop_eq_getElem_cons h2, NodeA.cmpL]
theorem cmpL_nil {xs ys : List NodeA} {k : Nat} (h : xs.length ≤ k) : NodeA.cmpL (xs.drop k) (ys.drop k) = 0 := by
  rw [List.drop_eq_nil_of_le h, NodeA.cmpL]; simp

theorem cmp_zero_lt : ∀ (m : Nat) (a b : NodeA), SizeOf.sizeOf a < m → (NodeA.cmp a b = 0 ↔ a = b)
  | 0, _, _, h => by omega
  | m + 1, .mk o n r ks, .mk o' n' r' ks', h => by
    have hk : ∀ xs ys : List NodeA, (∀ x ∈ xs, x ∈ ks) → xs.length = ys.length → (NodeA.cmpL xs ys = 0 ↔ xs = ys) := by
      intro xs
      induction xs with
      | nil => intro ys _ hl; cases ys <;> simp_all [NodeA.cmpL]
      | cons x xs ih =>
        intro ys hm hl
        cases ys with
        | nil => simp at hl
        | cons y ys =>
          have h1 := cmp_zero_lt m x y (by have := NodeA.size_kid (op := o) (name := n) (num := r) (hm x (by simp)); omega)
          have h2 := ih ys (fun z hz => hm z (by simp [hz])) (by simpa using hl)
          rw [NodeA.cmpL, List.cons.injEq, ← h1, ← h2]
          split
          · next e => exact ⟨fun h => absurd h e, fun h => absurd h.1 e⟩
          · next e => exact ⟨fun h => ⟨by simpa using e, h⟩, fun h => h.2⟩
    obtain ⟨rn, rm, rd⟩ := r
    obtain ⟨rn', rm', rd'⟩ := r'
    rw [NodeA.cmp, NodeA.mk.injEq, RatA.mk.injEq]
    split
    · next e => exact ⟨fun h => absurd h (sgn_ne _), fun h => absurd h.1 e⟩
    split
    · next e => exact ⟨fun h => absurd h (sgn_ne _), fun h => absurd h.2.1 e⟩
    split
    · next e => exact ⟨fun h => absurd h (sgn_ne _), fun h => absurd h.2.2.1.1 e⟩
    split
    · next e => exact ⟨fun h => absurd h e, fun h => absurd (cmpWords_zero.2 h.2.2.1.2.1) e⟩
    split
    · next e => exact ⟨fun h => absurd h e, fun h => absurd (cmpWords_zero.2 h.2.2.1.2.2) e⟩
    split
    · next e => exact ⟨fun h => absurd h (sgn_ne _), fun h => absurd (by rw [h.2.2.2]) e⟩
    · next e1 e2 e3 e4 e5 e6 =>
      simp only [ne_eq, Decidable.not_not] at e1 e2 e3 e4 e5 e6
      rw [hk ks ks' (fun _ h => h) e6]
      exact ⟨fun h => ⟨e1, e2, ⟨e3, cmpWords_zero.1 e4, cmpWords_zero.1 e5⟩, h⟩, fun h => h.2.2.2⟩
theorem cmp_zero {a b : NodeA} : NodeA.cmp a b = 0 ↔ a = b := cmp_zero_lt _ a b (Nat.lt_succ_self _)
end Go.Iso
