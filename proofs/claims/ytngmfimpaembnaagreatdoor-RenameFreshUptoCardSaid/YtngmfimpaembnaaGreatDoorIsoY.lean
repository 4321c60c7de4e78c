/- The abstract layer, part Y: plain laws of models: rounds, scans, and trees as plain data. -/
import Derived.Test.YtngmfimpaembnaaGreatDoorIsoJ
namespace Go.Iso
open Go Go.RowKit
set_option linter.unusedVariables false
theorem ob {α β : Type} {o : Option α} {f : α → Option β} (x : α) {r : Option β} (h : o = some x) (k : f x = r) : o.bind f = r := by rw [h]; exact k
theorem w64 {z : Int} (h1 : -9223372036854775808 ≤ z) (h2 : z ≤ 9223372036854775807) : IntKind.wrap .i64 z = z := wrap_i64 h1 h2
theorem w64s {k : Nat} (h : k < 9223372036854775807) : IntKind.wrap .i64 ((k : Int) + 1) = ((k + 1 : Nat) : Int) := by rw [w64 (by omega) (by omega)]; rfl
theorem scan {α R : Type} (l : List α) (p : α → Bool) (r : R) (hl : l.length < 9223372036854775807) {f : (Int → Option (Out Unit R)) → Int → Option (Out Unit R)}
    (h1 : ∀ g (i : Nat) x, l[i]? = some x → f g i = if p x then g (IntKind.wrap .i64 ((i : Int) + 1)) else some (.out r))
    (h2 : ∀ g (i : Nat), l.length ≤ i → f g i = some (.go ())) {K : Nat} (hK : l.length < K) : iter K f 0 = some (if l.all p then .go () else .out r) := by
  have key : ∀ (d i K : Nat), l.length - i = d → d < K → iter K f (i : Int) = some (if (l.drop i).all p then .go () else .out r) := by
    intro d
    induction d with
    | zero =>
      intro i K hd hK
      obtain ⟨k, rfl⟩ : ∃ k, K = k + 1 := ⟨K - 1, by omega⟩
      rw [iter_succ, h2 _ i (by omega), List.drop_eq_nil_of_le (by omega)]; rfl
    | succ d ih =>
      intro i K hd hK
      obtain ⟨k, rfl⟩ : ∃ k, K = k + 1 := ⟨K - 1, by omega⟩
      have hi : i < l.length := by omega
      have hx : l[i]? = some l[i] := List.getElem?_eq_getElem hi
      rw [iter_succ, h1 _ i _ hx, List.drop_eq_getElem_cons hi, w64s (by omega), List.all_cons]
      cases hp : p l[i] with
      | true => rw [if_pos rfl, ih (i + 1) k (by omega) (by omega)]; simp
      | false => simp
  exact key l.length 0 K (by simp) hK
theorem scanG {S T R : Type} (n : Nat) (σ : Nat → S) (p : Nat → Bool) (r : R) (e : T) {f : (S → Option (Out T R)) → S → Option (Out T R)}
    (h1 : ∀ g i, i < n → f g (σ i) = if p i then g (σ (i + 1)) else some (.out r)) (h2 : ∀ g, f g (σ n) = some (.go e)) {K : Nat} (hK : n < K) {s0 : S} (h0 : s0 = σ 0) :
    iter K f s0 = some (if (List.range n).all p then .go e else .out r) := by
  subst h0
  have key : ∀ (d i K : Nat), n - i = d → i ≤ n → d < K → iter K f (σ i) = some (if ((List.range n).drop i).all p then .go e else .out r) := by
    intro d
    induction d with
    | zero =>
      intro i K hd hi hK
      obtain ⟨k, rfl⟩ : ∃ k, K = k + 1 := ⟨K - 1, by omega⟩
      obtain rfl : i = n := by omega
      rw [iter_succ, h2, List.drop_eq_nil_of_le (by simp)]; rfl
    | succ d ih =>
      intro i K hd hi hK
      obtain ⟨k, rfl⟩ : ∃ k, K = k + 1 := ⟨K - 1, by omega⟩
      have hl : i < (List.range n).length := by simp; omega
      rw [iter_succ, h1 _ i (by simpa using hl), List.drop_eq_getElem_cons hl, List.all_cons]
      simp only [List.getElem_range]
      cases hp : p i with
      | true => rw [if_pos rfl, ih (i + 1) k (by omega) (by simp at hl; omega) (by omega)]; simp
      | false => simp
  exact key n 0 K (by simp) (Nat.zero_le _) hK
theorem foldG {S R : Type} (n : Nat) (σ : Nat → S) (e : R) {f : (S → Option R) → S → Option R}
    (h1 : ∀ g i, i < n → f g (σ i) = g (σ (i + 1))) (h2 : ∀ g, f g (σ n) = some e) {K : Nat} (hK : n < K) {s0 : S} (h0 : s0 = σ 0) : iter K f s0 = some e := by
  subst h0
  have key : ∀ (d i K : Nat), n - i = d → i ≤ n → d < K → iter K f (σ i) = some e := by
    intro d
    induction d with
    | zero =>
      intro i K hd hi hK
      obtain ⟨k, rfl⟩ : ∃ k, K = k + 1 := ⟨K - 1, by omega⟩
      obtain rfl : i = n := by omega
      rw [iter_succ, h2]
    | succ d ih =>
      intro i K hd hi hK
      obtain ⟨k, rfl⟩ : ∃ k, K = k + 1 := ⟨K - 1, by omega⟩
      rw [iter_succ, h1 _ i (by omega), ih (i + 1) k (by omega) (by omega) (by omega)]
  exact key n 0 K (by simp) (Nat.zero_le _) hK
theorem loopE {S O : Type} (J : Nat → S → Prop) (Post : Nat → S → O → Prop) {f : (S → Option O) → S → Option O} (n : Nat)
    (h1 : ∀ g i s, i < n → J i s → (∀ s', J (i + 1) s' → ∃ o, g s' = some o ∧ Post (i + 1) s' o) → ∃ o, f g s = some o ∧ Post i s o)
    (h2 : ∀ g s, J n s → ∃ o, f g s = some o ∧ Post n s o) {K : Nat} (i : Nat) (s : S) (hj : J i s) (hi : i ≤ n) (hK : n - i < K) : ∃ o, iter K f s = some o ∧ Post i s o := by
  induction K generalizing i s with
  | zero => omega
  | succ K ih =>
    rw [iter_succ]
    by_cases h : i = n
    · subst h; exact h2 _ s hj
    · exact h1 _ i s (by omega) hj fun s' hs' => ih (i + 1) s' hs' (by omega) (by omega)
theorem ex_ob {α β : Type} {e : Option α} {f : α → Option β} {W : β → Prop} (h : ∃ o, e = some o ∧ ∃ r, f o = some r ∧ W r) : ∃ r, e.bind f = some r ∧ W r := by
  obtain ⟨o, rfl, r, h1, h2⟩ := h; exact ⟨r, h1, h2⟩
theorem range_all {α : Type} (l : List α) (q : α → Bool) : ((List.range l.length).all fun i => (l[i]?).all q) = l.all q := by
  rw [Bool.eq_iff_iff]
  simp only [List.all_eq_true, List.mem_range]
  constructor
  · intro h x hx
    obtain ⟨i, hi, rfl⟩ := List.mem_iff_getElem.1 hx
    have := h i hi
    rw [List.getElem?_eq_getElem hi] at this; simpa using this
  · intro h i hi
    rw [List.getElem?_eq_getElem hi]; simpa using h _ (List.getElem_mem hi)
/-! ### How total models are reckoned -/
section
variable {α β : Type} {a b : Bool}
theorem andO : (if a then some b else some false) = some (a && b) := by cases a <;> rfl
theorem orO : (if a then some true else some b) = some (a || b) := by cases a <;> rfl
theorem orO' : (if a then some a else some b) = some (a || b) := by cases a <;> rfl
theorem ifOI {x y : Int} : (if a then some x else some y) = some (if a then x else y) := by cases a <;> rfl
theorem ifOS {x y : ByteArray} : (if a then some x else some y) = some (if a then x else y) := by cases a <;> rfl
theorem ifOP {x y : α × β} : (if a then some x else some y) = some (if a then x else y) := by cases a <;> rfl
theorem ifOO {x y : Out α β} : (if a then some x else some y) = some (if a then x else y) := by cases a <;> rfl
theorem outM_eq {S : Type} {r : α} : (outM (some r) : Option (Out S α)) = some (.out r) := rfl
theorem finIf {S : Type} {f : S → Option α} {r : α} {s : S} : Out.fin f (if a then .out r else .go s) = if a then some r else f s := by cases a <;> rfl
theorem finIf' {S : Type} {f : S → Option α} {r : α} {s : S} : Out.fin f (if a then .go s else .out r) = if a then f s else some r := by cases a <;> rfl
theorem int_ne0 {n : Nat} (h : n ≠ 0) : ((n : Int) == 0) = false := by rw [beq_eq_false_iff_ne]; omega
theorem int_eq0 {n : Nat} (h : n = 0) : ((n : Int) == 0) = true := by rw [beq_iff_eq]; omega
end
/-! ### Trees -/
def NodeA.size : NodeA → Nat
  | .mk _ _ _ kids => 1 + (kids.attach.map fun ⟨k, _⟩ => k.size).sum
termination_by n => SizeOf.sizeOf n
decreasing_by exact NodeA.size_kid (by assumption)
def NodeA.lev : NodeA → Nat
  | .mk _ _ _ kids => 1 + (kids.attach.map fun ⟨k, _⟩ => k.lev).foldl max 0
termination_by n => SizeOf.sizeOf n
decreasing_by exact NodeA.size_kid (by assumption)
theorem NodeA.size_mk {o : Int} {n : ByteArray} {r : RatA} {ks : List NodeA} : (NodeA.mk o n r ks).size = 1 + (ks.map NodeA.size).sum := by
  rw [NodeA.size]; simp
theorem NodeA.lev_mk {o : Int} {n : ByteArray} {r : RatA} {ks : List NodeA} : (NodeA.mk o n r ks).lev = 1 + (ks.map NodeA.lev).foldl max 0 := by
  rw [NodeA.lev]; simp
theorem sum_mem {l : List Nat} {x : Nat} (h : x ∈ l) : x ≤ l.sum := by
  induction l with
  | nil => cases h
  | cons y r ih => rcases List.mem_cons.1 h with rfl | h
                   · simp
                   · have := ih h; simp; omega
theorem NodeA.size_pos (n : NodeA) : 0 < n.size := by cases n; rw [NodeA.size_mk]; omega
theorem NodeA.size_lt {n k : NodeA} (h : k ∈ n.kids) : k.size < n.size := by
  cases n with | mk o m r ks => rw [NodeA.size_mk]; have := sum_mem (List.mem_map_of_mem (f := NodeA.size) (show k ∈ ks from h)); omega
theorem sum_ge_len {l : List NodeA} : l.length ≤ (l.map NodeA.size).sum := by
  induction l with
  | nil => simp
  | cons x r ih => have := x.size_pos; simp; omega
theorem NodeA.kids_lt (n : NodeA) : n.kids.length < n.size := by
  cases n with | mk o m r ks => rw [NodeA.size_mk]; have := sum_ge_len (l := ks); show ks.length < _; omega
theorem foldl_max (l : List Nat) (a : Nat) : l.foldl max a = max a (l.foldl max 0) := by
  induction l generalizing a with
  | nil => simp
  | cons x r ih => rw [List.foldl_cons, List.foldl_cons, ih, ih (max 0 x)]; omega
theorem NodeA.lev_le_size : ∀ n : NodeA, n.lev ≤ n.size
  | .mk o m r ks => by
    rw [NodeA.lev_mk, NodeA.size_mk]
    have : ∀ l : List NodeA, (∀ x ∈ l, x ∈ ks) → (l.map NodeA.lev).foldl max 0 ≤ (l.map NodeA.size).sum := by
      intro l
      induction l with
      | nil => intro _; simp
      | cons x l ih =>
        intro h
        have h1 := NodeA.lev_le_size x
        have h2 := ih fun y hy => h y (List.mem_cons_of_mem _ hy)
        rw [List.map_cons, List.map_cons, List.foldl_cons, foldl_max, List.sum_cons]; omega
    have := this ks fun x hx => hx
    omega
termination_by n => SizeOf.sizeOf n
decreasing_by exact NodeA.size_kid (h x (List.mem_cons_self ..))
theorem NodeA.ind {P : NodeA → Prop} (h : ∀ n : NodeA, (∀ k ∈ n.kids, P k) → P n) : ∀ n, P n
  | .mk o m r ks => h _ fun k hk => NodeA.ind h k
termination_by n => SizeOf.sizeOf n
decreasing_by exact NodeA.size_kid hk
def RatA.words (r : RatA) : Prop := (∀ x ∈ r.num, 0 ≤ x ∧ x < 4294967296) ∧ ∀ x ∈ r.den, 0 ≤ x ∧ x < 4294967296
def NodeA.words : NodeA → Prop
  | .mk _ _ r kids => r.words ∧ ∀ k (h : k ∈ kids), k.words
termination_by n => SizeOf.sizeOf n
decreasing_by exact NodeA.size_kid h
theorem NodeA.words_mk {o : Int} {n : ByteArray} {r : RatA} {ks : List NodeA} : (NodeA.mk o n r ks).words = (r.words ∧ ∀ k ∈ ks, k.words) := by
  rw [NodeA.words]
theorem NodeA.words_num {n : NodeA} (h : n.words) : n.num.words := by cases n; rw [NodeA.words_mk] at h; exact h.1
theorem NodeA.words_kid {n k : NodeA} (h : n.words) (hk : k ∈ n.kids) : k.words := by cases n; rw [NodeA.words_mk] at h; exact h.2 k hk
end Go.Iso
