/- The abstract layer, part X: plain laws of lists of strings in order. -/
import Derived.Test.YtngmfimpaembnaaGreatDoorIsoU
import Derived.Test.YtngmfimpaembnaaGreatDoorIsoY
import Derived.Test.YtngmfimpaembnaaGreatDoorIsoN
namespace Go.Iso
open Go Go.RowKit
set_option linter.unusedSimpArgs false
set_option linter.unusedVariables false
def ltS (a b : ByteArray) : Bool := Op.bytesLess a.toList b.toList
theorem bl_trans : ∀ {x y z : List UInt8}, Op.bytesLess x y = true → Op.bytesLess y z = true → Op.bytesLess x z = true
  | _, _, [], _, h => by cases ‹List UInt8› <;> simp [Op.bytesLess] at h
  | _, [], _ :: _, h, _ => by cases ‹List UInt8› <;> simp [Op.bytesLess] at h
  | [], _ :: _, _ :: _, _, _ => by simp [Op.bytesLess]
  | a :: x, b :: y, c :: z, h1, h2 => by
    simp only [Op.bytesLess, Bool.or_eq_true, decide_eq_true_eq, Bool.and_eq_true, beq_iff_eq] at h1 h2 ⊢
    rcases h1 with h1 | ⟨rfl, h1⟩ <;> rcases h2 with h2 | ⟨rfl, h2⟩
    · exact .inl (UInt8.lt_trans h1 h2)
    · exact .inl h1
    · exact .inl h2
    · exact .inr ⟨rfl, bl_trans h1 h2⟩
theorem bl_irrefl : ∀ x : List UInt8, Op.bytesLess x x = false
  | [] => rfl
  | a :: x => by simp [Op.bytesLess, bl_irrefl x]
theorem bl_total : ∀ x y : List UInt8, Op.bytesLess x y = true ∨ x = y ∨ Op.bytesLess y x = true
  | [], [] => .inr (.inl rfl)
  | [], _ :: _ => .inl rfl
  | _ :: _, [] => .inr (.inr rfl)
  | a :: x, b :: y => by
    simp only [Op.bytesLess, Bool.or_eq_true, decide_eq_true_eq, Bool.and_eq_true, beq_iff_eq]
    have tri : a < b ∨ b < a ∨ a = b := by
      rcases Nat.lt_trichotomy a.toNat b.toNat with h | h | h
      · exact .inl (UInt8.lt_iff_toNat_lt.2 h)
      · exact .inr (.inr (UInt8.toNat_inj.1 h))
      · exact .inr (.inl (UInt8.lt_iff_toNat_lt.2 h))
    rcases tri with h | h | rfl
    · exact .inl (.inl h)
    · exact .inr (.inr (.inl h))
    · rcases bl_total x y with h | rfl | h
      · exact .inl (.inr ⟨rfl, h⟩)
      · exact .inr (.inl rfl)
      · exact .inr (.inr (.inr ⟨rfl, h⟩))
theorem lt_trans' {x y z : ByteArray} (h : ltS x y = true) (k : ltS y z = true) : ltS x z = true := bl_trans h k
theorem lt_irrefl' (x : ByteArray) : ltS x x = false := bl_irrefl _
theorem lt_total (x y : ByteArray) : ltS x y = true ∨ x = y ∨ ltS y x = true := (bl_total x.toList y.toList).imp id (Or.imp (fun h => bytes_eq.1 (by rw [h]; simp)) id)
abbrev SP (l : List ByteArray) : Prop := l.Pairwise fun x y => ltS x y = true
theorem lt_ne {x y : ByteArray} (h : ltS x y = true) : x ≠ y := fun e => by rw [e, lt_irrefl'] at h; cases h
theorem ext_sp : ∀ {l m : List ByteArray}, SP l → SP m → (∀ x, x ∈ l ↔ x ∈ m) → l = m
  | [], [], _, _, _ => rfl
  | [], y :: m, _, _, h => by have := (h y).2 (by simp); simp at this
  | x :: l, [], _, _, h => by have := (h x).1 (by simp); simp at this
  | x :: l, y :: m, hl, hm, h => by
    obtain ⟨hl1, hl2⟩ := List.pairwise_cons.1 hl
    obtain ⟨hm1, hm2⟩ := List.pairwise_cons.1 hm
    have hxy : x = y := by
      rcases List.mem_cons.1 ((h x).1 (by simp)) with e | e
      · exact e
      · rcases List.mem_cons.1 ((h y).2 (by simp)) with e' | e'
        · exact e'.symm
        · have := lt_trans' (hl1 y e') (hm1 x e); rw [lt_irrefl'] at this; cases this
    subst hxy
    congr 1
    refine ext_sp hl2 hm2 fun z => ⟨fun hz => ?_, fun hz => ?_⟩
    · rcases List.mem_cons.1 ((h z).1 (by simp [hz])) with e | e
      · exact absurd e.symm (lt_ne (hl1 z hz))
      · exact e
    · rcases List.mem_cons.1 ((h z).2 (by simp [hz])) with e | e
      · exact absurd e.symm (lt_ne (hm1 z hz))
      · exact e
def mixS (l bo r : Bool) : List ByteArray → List ByteArray → List ByteArray
  | [], [] => []
  | x :: a, [] => (if l = true then [x] else []) ++ mixS l bo r a []
  | [], y :: b => (if r = true then [y] else []) ++ mixS l bo r [] b
  | x :: a, y :: b =>
    if ltS x y = true then (if l = true then [x] else []) ++ mixS l bo r a (y :: b)
    else if ltS y x = true then (if r = true then [y] else []) ++ mixS l bo r (x :: a) b
    else (if bo = true then [x] else []) ++ mixS l bo r a b
termination_by a b => a.length + b.length
theorem mem_mix {l bo r : Bool} : ∀ {a b : List ByteArray}, SP a → SP b → ∀ x, x ∈ mixS l bo r a b ↔ (x ∈ a ∧ x ∉ b ∧ l = true) ∨ (x ∈ a ∧ x ∈ b ∧ bo = true) ∨ (x ∉ a ∧ x ∈ b ∧ r = true)
  | [], [], _, _, x => by simp [mixS]
  | y :: a, [], ha, hb, x => by
    rw [mixS, List.mem_append, mem_mix (List.pairwise_cons.1 ha).2 hb x]
    cases l <;> simp
  | [], y :: b, ha, hb, x => by
    rw [mixS, List.mem_append, mem_mix ha (List.pairwise_cons.1 hb).2 x]
    cases r <;> simp
  | y :: a, z :: b, ha, hb, x => by
    obtain ⟨ha1, ha2⟩ := List.pairwise_cons.1 ha
    obtain ⟨hb1, hb2⟩ := List.pairwise_cons.1 hb
    have na : ∀ {w}, (w = y ∨ ltS w y = true) → w ∉ a := fun {w} h hm => by
      have := ha1 w hm
      rcases h with rfl | h
      · rw [lt_irrefl'] at this; cases this
      · have := lt_trans' h this; rw [lt_irrefl'] at this; cases this
    have nb : ∀ {w}, (w = z ∨ ltS w z = true) → w ∉ b := fun {w} h hm => by
      have := hb1 w hm
      rcases h with rfl | h
      · rw [lt_irrefl'] at this; cases this
      · have := lt_trans' h this; rw [lt_irrefl'] at this; cases this
    rw [mixS]
    split
    · next h =>
      rw [List.mem_append, mem_mix ha2 hb x]
      have h1 : y ∉ z :: b := by rw [List.mem_cons, not_or]; exact ⟨lt_ne h, nb (.inr h)⟩
      have h2 : y ∉ a := na (.inl rfl)
      by_cases hx : x = y
      · subst hx; cases l <;> simp [h1, h2]
      · cases l <;> simp [hx]
    · next h =>
      split
      · next h' =>
        rw [List.mem_append, mem_mix ha hb2 x]
        have h1 : z ∉ y :: a := by rw [List.mem_cons, not_or]; exact ⟨lt_ne h', na (.inr h')⟩
        have h2 : z ∉ b := nb (.inl rfl)
        by_cases hx : x = z
        · subst hx; cases r <;> simp [h1, h2]
        · cases r <;> simp [hx]
      · next h' =>
        have e : y = z := by
          rcases lt_total y z with k | k | k
          · exact absurd k h
          · exact k
          · exact absurd k h'
        subst e
        rw [List.mem_append, mem_mix ha2 hb2 x]
        have h1 : y ∉ a := na (.inl rfl)
        have h2 : y ∉ b := nb (.inl rfl)
        by_cases hx : x = y
        · subst hx; cases bo <;> simp [h1, h2]
        · cases bo <;> simp [hx]
  termination_by a b => a.length + b.length
theorem sub_mix {l bo r : Bool} {a b : List ByteArray} (ha : SP a) (hb : SP b) {x : ByteArray} (h : x ∈ mixS l bo r a b) : x ∈ a ∨ x ∈ b := by
  rcases (mem_mix ha hb x).1 h with h | h | h
  · exact .inl h.1
  · exact .inl h.1
  · exact .inr h.2.1
theorem sp_opt {c : Bool} {x : ByteArray} {m : List ByteArray} (h : SP m) (hx : ∀ y ∈ m, ltS x y = true) : SP ((if c = true then [x] else []) ++ m) := by
  cases c
  · simpa using h
  · simpa using ⟨hx, h⟩
theorem sp_mix {l bo r : Bool} : ∀ {a b : List ByteArray}, SP a → SP b → SP (mixS l bo r a b)
  | [], [], _, _ => by simp [mixS]
  | y :: a, [], ha, hb => by
    obtain ⟨ha1, ha2⟩ := List.pairwise_cons.1 ha
    rw [mixS]
    exact sp_opt (sp_mix ha2 hb) fun w hw => (sub_mix ha2 hb hw).elim (ha1 w) (fun h => by simp at h)
  | [], y :: b, ha, hb => by
    obtain ⟨hb1, hb2⟩ := List.pairwise_cons.1 hb
    rw [mixS]
    exact sp_opt (sp_mix ha hb2) fun w hw => (sub_mix ha hb2 hw).elim (fun h => by simp at h) (hb1 w)
  | y :: a, z :: b, ha, hb => by
    obtain ⟨ha1, ha2⟩ := List.pairwise_cons.1 ha
    obtain ⟨hb1, hb2⟩ := List.pairwise_cons.1 hb
    rw [mixS]
    split
    · next h =>
      refine sp_opt (sp_mix ha2 hb) fun w hw => (sub_mix ha2 hb hw).elim (ha1 w) fun hw => ?_
      rcases List.mem_cons.1 hw with rfl | hw
      · exact h
      · exact lt_trans' h (hb1 w hw)
    · next h =>
      split
      · next h' =>
        refine sp_opt (sp_mix ha hb2) fun w hw => (sub_mix ha hb2 hw).elim (fun hw => ?_) (hb1 w)
        rcases List.mem_cons.1 hw with rfl | hw
        · exact h'
        · exact lt_trans' h' (ha1 w hw)
      · next h' =>
        have e : y = z := by
          rcases lt_total y z with k | k | k
          · exact absurd k h
          · exact k
          · exact absurd k h'
        subst e
        exact sp_opt (sp_mix ha2 hb2) fun w hw => (sub_mix ha2 hb2 hw).elim (ha1 w) (hb1 w)
  termination_by a b => a.length + b.length
/-! ### Sorting -/
theorem mem_sortB {l : List ByteArray} {x : ByteArray} : x ∈ sortB l ↔ x ∈ l := by
  simp only [sortB, List.mem_map, List.mem_mergeSort]
  constructor
  · rintro ⟨_, ⟨y, hy, rfl⟩, rfl⟩; rw [strB_bytes]; exact hy
  · exact fun h => ⟨_, ⟨x, h, rfl⟩, strB_bytes⟩
theorem nodup_map {α β : Type} {f : α → β} (hf : ∀ x y, f x = f y → x = y) : ∀ {l : List α}, l.Nodup → (l.map f).Nodup
  | [], _ => by simp
  | x :: l, h => by
    obtain ⟨h1, h2⟩ := List.nodup_cons.1 h
    rw [List.map_cons, List.nodup_cons]
    refine ⟨fun hm => ?_, nodup_map hf h2⟩
    obtain ⟨y, hy, e⟩ := List.mem_map.1 hm
    rw [hf _ _ e] at hy; exact h1 hy
theorem bl_lt : ∀ x y : List UInt8, Op.bytesLess x y = true → x < y
  | x, [], h => by cases x <;> simp [Op.bytesLess] at h
  | [], b :: y, _ => List.nil_lt_cons ..
  | a :: x, b :: y, h => by
    simp only [Op.bytesLess, Bool.or_eq_true, decide_eq_true_eq, Bool.and_eq_true, beq_iff_eq] at h
    rw [List.cons_lt_cons_iff]
    rcases h with h | ⟨rfl, h⟩
    · exact .inl h
    · exact .inr ⟨rfl, bl_lt x y h⟩
theorem sp_sort {l : List ByteArray} (h : l.Nodup) : SP (sortB l) := by
  have h1 : ((l.map bytesOf).mergeSort fun x y => decide (x ≤ y)).Pairwise fun a b => decide (a ≤ b) = true :=
    List.pairwise_mergeSort (fun a b c h1 h2 => by simp only [decide_eq_true_eq] at *; exact List.le_trans h1 h2) (fun a b => by simp only [Bool.or_eq_true, decide_eq_true_eq]; exact List.le_total a b) _
  have h2 : ((l.map bytesOf).mergeSort fun x y => decide (x ≤ y)).Nodup := by
    refine (List.mergeSort_perm _ _).nodup_iff.2 (nodup_map (fun x y e => ?_) h)
    have := congrArg strB e; rwa [strB_bytes, strB_bytes] at this
  unfold sortB
  refine List.pairwise_map.2 (List.Pairwise.imp (fun {a b} hab => ?_) (h1.and h2))
  obtain ⟨ha, hb⟩ := hab
  have hle : a ≤ b := by simpa using ha
  have e : ∀ b : List UInt8, (strB b).toList = b := fun b => by rw [bytes_toList]; simp [strB]
  unfold ltS
  rw [e, e]
  rcases bl_total a b with h | h | h
  · exact h
  · exact absurd h hb
  · exact absurd (bl_lt _ _ h) (List.not_lt.2 hle)
theorem sp_nodup {l : List ByteArray} (h : SP l) : l.Nodup := List.Pairwise.imp lt_ne h
theorem nodup_len {α : Type} [DecidableEq α] : ∀ {l m : List α}, l.Nodup → (∀ x ∈ l, x ∈ m) → l.length ≤ m.length
  | [], m, _, _ => by simp
  | x :: l, m, h, hs => by
    obtain ⟨h1, h2⟩ := List.nodup_cons.1 h
    have hx := hs x (List.mem_cons_self ..)
    have := nodup_len (l := l) (m := m.erase x) h2 fun y hy => (List.mem_erase_of_ne (fun e => by subst e; exact h1 hy)).2 (hs y (List.mem_cons_of_mem _ hy))
    rw [List.length_erase_of_mem hx] at this
    have : 0 < m.length := List.length_pos_of_mem hx
    simp only [List.length_cons]; omega
end Go.Iso
