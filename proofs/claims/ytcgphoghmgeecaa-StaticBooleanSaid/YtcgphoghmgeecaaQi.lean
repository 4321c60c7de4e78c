/- Part of the proof of a law: contracts of the functions that the law reaches, out of the abstract layer (the texts YtcgphoghmgeecaaIso..). No condition. -/
import Derived.Test.YtcgphoghmgeecaaQh
namespace Go.Proofs.Ytcgphoghmgeecaa
open Go Go.Iso Go.Proofs
set_option linter.unusedSimpArgs false
set_option linter.unusedVariables false

/-! The plain law: sorted lists as sets. -/
abbrev SP (l : List ByteArray) : Prop := l.Pairwise fun x y => ltS x y = true
theorem sp_of {l : List ByteArray} (h : SortedS l) : SP l :=
  List.pairwise_iff_getElem.2 fun i j hi hj hij => h i j _ _ hij (List.getElem?_eq_getElem hi) (List.getElem?_eq_getElem hj)
theorem lt_ne {x y : ByteArray} (h : ltS x y = true) : x ≠ y := fun e => by rw [e, lt_irrefl'] at h; cases h
theorem ext_sp : ∀ {l m : List ByteArray}, SP l → SP m → (∀ x, x ∈ l ↔ x ∈ m) → l = m
  | [], [], _, _, _ => rfl
  | [], y :: m, _, _, h => by have := (h y).2 (by simp); simp at this
  | x :: l, [], _, _, h => by have := (h x).1 (by simp); simp at this
  | x :: l, y :: m, hl, hm, h => by
    obtain ⟨hl1, hl2⟩ := List.pairwise_cons.1 hl
    obtain ⟨hm1, hm2⟩ := List.pairwise_cons.1 hm
    have hxy : x = y := by
      rcases List.mem_cons.1 ((h x).1 (by simp)) with e | e
      · exact e
      · rcases List.mem_cons.1 ((h y).2 (by simp)) with e' | e'
        · exact e'.symm
        · have := lt_trans' (hl1 y e') (hm1 x e); rw [lt_irrefl'] at this; cases this
    subst hxy
    congr 1
    refine ext_sp hl2 hm2 fun z => ⟨fun hz => ?_, fun hz => ?_⟩
    · rcases List.mem_cons.1 ((h z).1 (by simp [hz])) with e | e
      · exact absurd e.symm (lt_ne (hl1 z hz))
      · exact e
    · rcases List.mem_cons.1 ((h z).2 (by simp [hz])) with e | e
      · exact absurd e.symm (lt_ne (hm1 z hz))
      · exact e

theorem mem_mix {l bo r : Bool} : ∀ {a b : List ByteArray}, SP a → SP b → ∀ x, x ∈ mixS l bo r a b ↔ (x ∈ a ∧ x ∉ b ∧ l = true) ∨ (x ∈ a ∧ x ∈ b ∧ bo = true) ∨ (x ∉ a ∧ x ∈ b ∧ r = true)
  | [], [], _, _, x => by simp [mixS]
  | y :: a, [], ha, hb, x => by
    rw [mixS, List.mem_append, mem_mix (List.pairwise_cons.1 ha).2 hb x]
    cases l <;> simp
  | [], y :: b, ha, hb, x => by
    rw [mixS, List.mem_append, mem_mix ha (List.pairwise_cons.1 hb).2 x]
    cases r <;> simp
  | y :: a, z :: b, ha, hb, x => by
    obtain ⟨ha1, ha2⟩ := List.pairwise_cons.1 ha
    obtain ⟨hb1, hb2⟩ := List.pairwise_cons.1 hb
    have na : ∀ {w}, (w = y ∨ ltS w y = true) → w ∉ a := fun {w} h hm => by
      have := ha1 w hm
      rcases h with rfl | h
      · rw [lt_irrefl'] at this; cases this
      · have := lt_trans' h this; rw [lt_irrefl'] at this; cases this
    have nb : ∀ {w}, (w = z ∨ ltS w z = true) → w ∉ b := fun {w} h hm => by
      have := hb1 w hm
      rcases h with rfl | h
      · rw [lt_irrefl'] at this; cases this
      · have := lt_trans' h this; rw [lt_irrefl'] at this; cases this
    rw [mixS]
    split
    · next h =>
      rw [List.mem_append, mem_mix ha2 hb x]
      have h1 : y ∉ z :: b := by rw [List.mem_cons, not_or]; exact ⟨lt_ne h, nb (.inr h)⟩
      have h2 : y ∉ a := na (.inl rfl)
      by_cases hx : x = y
      · subst hx; cases l <;> simp [h1, h2]
      · cases l <;> simp [hx]
    · next h =>
      split
      · next h' =>
        rw [List.mem_append, mem_mix ha hb2 x]
        have h1 : z ∉ y :: a := by rw [List.mem_cons, not_or]; exact ⟨lt_ne h', na (.inr h')⟩
        have h2 : z ∉ b := nb (.inl rfl)
        by_cases hx : x = z
        · subst hx; cases r <;> simp [h1, h2]
        · cases r <;> simp [hx]
      · next h' =>
        have e : y = z := by
          rcases lt_total y z with k | k | k
          · exact absurd k h
          · exact k
          · exact absurd k h'
        subst e
        rw [List.mem_append, mem_mix ha2 hb2 x]
        have h1 : y ∉ a := na (.inl rfl)
        have h2 : y ∉ b := nb (.inl rfl)
        by_cases hx : x = y
        · subst hx; cases bo <;> simp [h1, h2]
        · cases bo <;> simp [hx]
  termination_by a b => a.length + b.length
theorem sub_mix {l bo r : Bool} {a b : List ByteArray} (ha : SP a) (hb : SP b) {x : ByteArray} (h : x ∈ mixS l bo r a b) : x ∈ a ∨ x ∈ b := by
  rcases (mem_mix ha hb x).1 h with h | h | h
  · exact .inl h.1
  · exact .inl h.1
  · exact .inr h.2.1
theorem sp_opt {c : Bool} {x : ByteArray} {m : List ByteArray} (h : SP m) (hx : ∀ y ∈ m, ltS x y = true) : SP ((if c = true then [x] else []) ++ m) := by
  cases c
  · simpa using h
  · simpa using ⟨hx, h⟩
theorem sp_mix {l bo r : Bool} : ∀ {a b : List ByteArray}, SP a → SP b → SP (mixS l bo r a b)
  | [], [], _, _ => by simp [mixS]
  | y :: a, [], ha, hb => by
    obtain ⟨ha1, ha2⟩ := List.pairwise_cons.1 ha
    rw [mixS]
    exact sp_opt (sp_mix ha2 hb) fun w hw => (sub_mix ha2 hb hw).elim (ha1 w) (fun h => by simp at h)
  | [], y :: b, ha, hb => by
    obtain ⟨hb1, hb2⟩ := List.pairwise_cons.1 hb
    rw [mixS]
    exact sp_opt (sp_mix ha hb2) fun w hw => (sub_mix ha hb2 hw).elim (fun h => by simp at h) (hb1 w)
  | y :: a, z :: b, ha, hb => by
    obtain ⟨ha1, ha2⟩ := List.pairwise_cons.1 ha
    obtain ⟨hb1, hb2⟩ := List.pairwise_cons.1 hb
    rw [mixS]
    split
    · next h =>
      refine sp_opt (sp_mix ha2 hb) fun w hw => (sub_mix ha2 hb hw).elim (ha1 w) fun hw => ?_
      rcases List.mem_cons.1 hw with rfl | hw
      · exact h
      · exact lt_trans' h (hb1 w hw)
    · next h =>
      split
      · next h' =>
        refine sp_opt (sp_mix ha hb2) fun w hw => (sub_mix ha hb2 hw).elim (fun hw => ?_) (hb1 w)
        rcases List.mem_cons.1 hw with rfl | hw
        · exact h'
        · exact lt_trans' h' (ha1 w hw)
      · next h' =>
        have e : y = z := by
          rcases lt_total y z with k | k | k
          · exact absurd k h
          · exact k
          · exact absurd k h'
        subst e
        exact sp_opt (sp_mix ha2 hb2) fun w hw => (sub_mix ha2 hb2 hw).elim (ha1 w) (hb1 w)
  termination_by a b => a.length + b.length

theorem mem_kept {a b : List ByteArray} {has : Bool} {x : ByteArray} : x ∈ keptS a b has ↔ x ∈ a ∧ pB (x ∈ b) = has := by
  simp [keptS]
theorem sp_kept {a b : List ByteArray} {has : Bool} (ha : SP a) : SP (keptS a b has) := List.Pairwise.sublist List.filter_sublist ha

def ins (v : ByteArray) : List ByteArray → Bool → List ByteArray
  | [], p => if p = true then [] else [v]
  | x :: l, p => (if (!p && !ltS x v) = true then [v] else []) ++ (if x = v then [] else [x]) ++ ins v l (p || !ltS x v)
theorem fold_ins (v : ByteArray) : ∀ (l : List ByteArray) (s : List ByteArray × Bool), (if (l.foldl (withStep v) s).2 = true then (l.foldl (withStep v) s).1 else (l.foldl (withStep v) s).1 ++ [v]) = s.1 ++ ins v l s.2
  | [], s => by cases h : s.2 <;> simp [ins, h]
  | x :: l, s => by
    have := fold_ins v l (withStep v s x)
    rw [List.foldl_cons, this]
    by_cases hx : x = v <;> cases h : s.2 <;> cases h2 : ltS x v <;> simp [ins, withStep, hx, h, h2] <;> (try (rw [hx] at h2; simp [h2]))
theorem with_ins {l : List ByteArray} {v : ByteArray} : withS l v = ins v l false := by
  have := fold_ins v l ([], false)
  simpa [withS] using this
theorem ins_true (v : ByteArray) : ∀ l : List ByteArray, ins v l true = l.filter fun x => !decide (x = v)
  | [] => by simp [ins]
  | x :: l => by by_cases hx : x = v <;> simp [ins, hx, ins_true v l]
theorem mem_ins {v : ByteArray} : ∀ {l : List ByteArray} {x : ByteArray}, x ∈ ins v l false ↔ x = v ∨ x ∈ l
  | [], x => by simp [ins]
  | y :: l, x => by
    cases h : ltS y v with
    | true =>
      have hy := lt_ne h
      simp only [ins, h, Bool.not_true, Bool.and_false, Bool.false_eq_true, if_false, Bool.or_false, if_neg hy, List.nil_append, List.mem_append, List.mem_cons, List.not_mem_nil, or_false, mem_ins (l := l)]
      constructor
      · rintro (h | h | h) <;> simp [h]
      · rintro (h | h | h) <;> simp [h]
    | false =>
      simp only [ins, h, Bool.not_false, Bool.and_true, if_true, Bool.or_true, ins_true, List.mem_append, List.mem_filter, List.mem_cons, List.not_mem_nil, or_false]
      by_cases hy : y = v
      · subst hy; by_cases hx : x = y <;> simp [hx]
      · by_cases hx : x = v <;> simp [hx, hy]
theorem sp_ins {v : ByteArray} : ∀ {l : List ByteArray}, SP l → SP (ins v l false)
  | [], _ => by simp [ins]
  | y :: l, hl => by
    obtain ⟨h1, h2⟩ := List.pairwise_cons.1 hl
    cases h : ltS y v with
    | true =>
      have hy := lt_ne h
      simp only [ins, h, Bool.not_true, Bool.and_false, Bool.false_eq_true, if_false, Bool.or_false, if_neg hy, List.nil_append, List.cons_append]
      refine List.pairwise_cons.2 ⟨fun w hw => ?_, sp_ins h2⟩
      rcases mem_ins.1 hw with rfl | hw
      · exact h
      · exact h1 w hw
    | false =>
      simp only [ins, h, Bool.not_false, Bool.and_true, if_true, Bool.or_true, ins_true]
      have hf : SP (l.filter fun x => !decide (x = v)) := List.Pairwise.sublist List.filter_sublist h2
      by_cases hy : y = v
      · subst hy
        simp only [if_true, List.append_nil, List.cons_append, List.nil_append]
        exact List.pairwise_cons.2 ⟨fun w hw => h1 w (List.mem_filter.1 hw).1, hf⟩
      · have hvy : ltS v y = true := by
          rcases lt_total y v with k | k | k
          · rw [h] at k; cases k
          · exact absurd k hy
          · exact k
        simp only [if_neg hy, List.cons_append, List.nil_append]
        refine List.pairwise_cons.2 ⟨fun w hw => ?_, List.pairwise_cons.2 ⟨fun w hw => h1 w (List.mem_filter.1 hw).1, hf⟩⟩
        rcases List.mem_cons.1 hw with rfl | hw
        · exact hvy
        · exact lt_trans' hvy (h1 w (List.mem_filter.1 hw).1)
theorem both_laws : ∀ {b a : List ByteArray}, SP a → SP (bothS a b) ∧ ∀ x, x ∈ bothS a b ↔ x ∈ a ∨ x ∈ b
  | [], a, ha => by simp [bothS, ha]
  | y :: b, a, ha => by
    have h : SP (withS a y) := by rw [with_ins]; exact sp_ins ha
    obtain ⟨h1, h2⟩ := both_laws (b := b) h
    have e : bothS a (y :: b) = bothS (withS a y) b := rfl
    rw [e]
    refine ⟨h1, fun x => ?_⟩
    rw [h2 x, with_ins, mem_ins, List.mem_cons]
    constructor
    · rintro ((h | h) | h) <;> simp [h]
    · rintro (h | h | h) <;> simp [h]

theorem join_eq {a b : NamesA} (ha : SP a.list) (hb : SP b.list) : unionS a b = joinR a b := by
  obtain ⟨al, a⟩ := a
  obtain ⟨bl, b⟩ := b
  simp only at ha hb
  have e1 : mixS false true false a b = keptS a b true := ext_sp (sp_mix ha hb) (sp_kept ha) fun x => by rw [mem_mix ha hb, mem_kept, pB_true]; simp
  have e2 : mixS true false false a b = keptS a b false := ext_sp (sp_mix ha hb) (sp_kept ha) fun x => by rw [mem_mix ha hb, mem_kept, pB_false]; simp
  have e3 : mixS false false true a b = keptS b a false := ext_sp (sp_mix ha hb) (sp_kept hb) fun x => by rw [mem_mix ha hb, mem_kept, pB_false]; simp [and_comm]
  have e4 : mixS true true true a b = bothS a b := ext_sp (sp_mix ha hb) (both_laws ha).1 fun x => by
    rw [mem_mix ha hb, (both_laws ha).2]
    by_cases h1 : x ∈ a <;> by_cases h2 : x ∈ b <;> simp [h1, h2]
  cases al <;> cases bl <;> simp [unionS, joinR, e1, e2, e3, e4]
theorem meet_eq {a b : NamesA} (ha : SP a.list) (hb : SP b.list) : meetS a b = meetR a b := by
  rw [meetS, meetR, join_eq (a := notS a) (b := notS b) ha hb]
theorem minus_eq {a b : NamesA} (ha : SP a.list) (hb : SP b.list) : minusS a b = minusR a b := by
  rw [minusS, minusR, meet_eq (b := notS b) ha hb]
theorem mix_len {l bo r : Bool} : ∀ {a b : List ByteArray}, (mixS l bo r a b).length ≤ a.length + b.length
  | [], [] => by simp [mixS]
  | y :: a, [] => by
    have := mix_len (l := l) (bo := bo) (r := r) (a := a) (b := [])
    rw [mixS, List.length_append]; split <;> simp at * <;> omega
  | [], y :: b => by
    have := mix_len (l := l) (bo := bo) (r := r) (a := []) (b := b)
    rw [mixS, List.length_append]; split <;> simp at * <;> omega
  | y :: a, z :: b => by
    have h1 := mix_len (l := l) (bo := bo) (r := r) (a := a) (b := z :: b)
    have h2 := mix_len (l := l) (bo := bo) (r := r) (a := y :: a) (b := b)
    have h3 := mix_len (l := l) (bo := bo) (r := r) (a := a) (b := b)
    rw [mixS]
    split
    · rw [List.length_append]; split <;> simp at * <;> omega
    · split <;> rw [List.length_append] <;> split <;> simp at * <;> omega
  termination_by a b => a.length + b.length
theorem union_len {a b : NamesA} : (unionS a b).list.length ≤ a.list.length + b.list.length := by
  unfold unionS; split <;> split <;> exact mix_len
theorem meet_len {a b : NamesA} : (meetS a b).list.length ≤ a.list.length + b.list.length := union_len (a := notS a) (b := notS b)
theorem minus_len {a b : NamesA} : (minusS a b).list.length ≤ a.list.length + b.list.length := meet_len (b := notS b)
end Go.Proofs.Ytcgphoghmgeecaa
