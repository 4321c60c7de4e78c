/- Part of the proof of a law: contracts of the functions that the law reaches, or plain laws of them, out of the abstract layer (the texts YtngmfimpaembnaaGreatDoorIso..). No condition. -/
import Derived.Test.YtngmfimpaembnaaGreatDoorLsetsb
import Derived.Test.YtngmfimpaembnaaGreatDoorLroot
import Derived.KernelRfl
namespace Go.Proofs.YtngmfimpaembnaaGreatDoor
open Go Go.Iso Go.Proofs
set_option linter.unusedSimpArgs false
set_option linter.unusedVariables false
set_option maxRecDepth 100000
def namesN : NodeA → List ByteArray
  | .mk _ name _ kids => name :: (kids.attach.map fun ⟨k, _⟩ => namesN k).flatten
termination_by n => SizeOf.sizeOf n
decreasing_by exact NodeA.size_kid (by assumption)
theorem names_mk {o : Int} {m : ByteArray} {r : RatA} {ks : List NodeA} : namesN (.mk o m r ks) = m :: (ks.map namesN).flatten := by
  rw [namesN]; simp
theorem names_len : ∀ n : NodeA, (namesN n).length = n.size := NodeA.ind fun n ih => by
  cases n with
  | mk o m r ks =>
    rw [names_mk, NodeA.size_mk, List.length_cons, List.length_flatten, List.map_map]
    have : ks.map (List.length ∘ namesN) = ks.map NodeA.size := List.map_congr_left fun k hk => ih k hk
    rw [this]; omega
theorem names_self (n : NodeA) : n.name ∈ namesN n := by cases n; rw [names_mk]; exact List.mem_cons_self ..
theorem names_kid {n k : NodeA} (hk : k ∈ n.kids) {x : ByteArray} (hx : x ∈ namesN k) : x ∈ namesN n := by
  cases n with
  | mk o m r ks =>
    rw [names_mk]
    exact List.mem_cons_of_mem _ (List.mem_flatten.2 ⟨_, List.mem_map_of_mem hk, hx⟩)
def uniL (n : NodeA) : List ByteArray := (namesN n).filter nameB ++ ((namesN n).filter nameB).map (· ++ tick)
def Cov (V : List ByteArray) (n : NodeA) : Prop := ∀ x ∈ namesN n, nameB x = true → x ∈ V ∧ x ++ tick ∈ V
theorem cov_kid {V : List ByteArray} {n k : NodeA} (h : Cov V n) (hk : k ∈ n.kids) : Cov V k := fun x hx => h x (names_kid hk hx)
theorem cov_uni (n : NodeA) : Cov (uniL n) n := fun x hx hn => by
  have : x ∈ (namesN n).filter nameB := List.mem_filter.2 ⟨hx, hn⟩
  exact ⟨List.mem_append_left _ this, List.mem_append_right _ (List.mem_map_of_mem this)⟩
theorem uni_uni {n : NodeA} (h : n.size ≤ 100000000) : Uni (uniL n) where
  siz := fun x hx => by
    unfold uniL at hx
    rcases List.mem_append.1 hx with hx | hx
    · have := (name_size (List.mem_filter.1 hx).2).2; omega
    · obtain ⟨y, hy, rfl⟩ := List.mem_map.1 hx
      have := (name_size (List.mem_filter.1 hy).2).2
      rw [tick_size]; omega
  top := by
    unfold uniL topV
    rw [List.length_append, List.length_map]
    have := List.length_filter_le nameB (namesN n)
    rw [names_len] at this; omega
  cls := fun x hx h39 => by
    unfold uniL at hx ⊢
    rcases List.mem_append.1 hx with hx | hx
    · exact List.mem_append_right _ (List.mem_map_of_mem hx)
    · obtain ⟨y, hy, rfl⟩ := List.mem_map.1 hx
      exact absurd tick_last h39
theorem name_last {x : ByteArray} (h : nameB x = true) : x[x.size - 1]? ≠ some 39 := by
  intro h39
  have hs := (name_size h).1
  unfold nameB at h
  rw [Bool.and_eq_true, List.all_eq_true] at h
  have := h.2 (x.size - 1) (List.mem_range.2 (by omega))
  rw [h39] at this
  have e : (letB ((39 : UInt8).toNat : Int)) = false := by decide
  have e2 : (digB ((39 : UInt8).toNat : Int)) = false := by decide
  rw [Option.all_some, e, e2] at this
  simp at this
theorem name_var {x : ByteArray} (h : nameB x = true) : varB x = true := by
  unfold varB unpB
  rw [if_neg (fun h2 => name_last h h2.2)]; exact h
theorem tick_var {x : ByteArray} (h : nameB x = true) : varB (x ++ tick) = true := by
  unfold varB; rw [unp_tick]; exact h
theorem fine_name {n : NodeA} (h : Fine n) (hn : namedS n.op = true) : nameB n.name = true := by
  obtain ⟨d, fd, fl, h⟩ := h
  rw [okS_eq] at h
  simp only [Bool.and_eq_true] at h
  have := h.2.1
  unfold nameC at this
  rw [hn] at this
  simpa using this
theorem fine_sorts {n : NodeA} (h : Fine n) : (n.kids.map fun x => sortS x.op) = sortsC n := by
  obtain ⟨d, fd, fl, h⟩ := h
  rw [okS_eq] at h
  simp only [Bool.and_eq_true] at h
  exact eq_of_beq h.2.2.2.1
theorem fine_len {n : NodeA} (h : Fine n) : n.kids.length = (sortsC n).length := by rw [← fine_sorts h, List.length_map]
abbrev noneS : Api_NamesA := ⟨false, []⟩
abbrev allS : Api_NamesA := ⟨true, []⟩
abbrev oneS (x : ByteArray) : Api_NamesA := ⟨false, [x]⟩
def unL (s : Api_NamesA) (l : List Api_NamesA) : Api_NamesA := l.foldl unionS s
section
variable {V : List ByteArray}
theorem good_unL : ∀ {l : List Api_NamesA} {s : Api_NamesA}, Good V s → (∀ x ∈ l, Good V x) → Good V (unL s l)
  | [], s, h, _ => h
  | x :: l, s, h, hl => good_unL (l := l) (good_union h (hl x (List.mem_cons_self ..))) fun y hy => hl y (List.mem_cons_of_mem _ hy)
end
section
variable {V : List ByteArray}
theorem good_name {n : NodeA} (hV : Uni V) (hf : Fine n) (hc : Cov V n) (hn : namedS n.op = true) : Good V (oneS n.name) ∧ Good V (oneS (n.name ++ tick)) ∧ n.name.size < 100 := by
  have h1 := fine_name hf hn
  have h2 := hc _ (names_self n) h1
  exact ⟨good_one hV (name_var h1) h2.1, good_one hV (tick_var h1) h2.2, hV.siz _ h2.1⟩
end
theorem named_b {op : Int} (h : op = 2 ∨ op = 3 ∨ op = 33 ∨ op = 34 ∨ op = 50 ∨ op = 51 ∨ op = 52 ∨ op = 55) : namedS op = true := by
  rcases h with rfl | rfl | rfl | rfl | rfl | rfl | rfl | rfl <;> decide +kernel
theorem flow_cut {n : NodeA} (hf : Fine n) (hb : n.size ≤ big) (h54 : n.op = 54) : cutL n.kids none (some (IntKind.wrap .i64 ((n.kids.length : Int) - 1))) = some (n.kids.take (n.kids.length - 1)) ∧ 0 < n.kids.length := by
  have hl := fine_len hf
  have : 0 < n.kids.length := by
    have e : sortsC n = List.replicate (n.kids.length - 1) 4 ++ [2] := by unfold sortsC; rw [h54]; rfl
    rw [e] at hl; simp at hl; omega
  refine ⟨?_, this⟩
  have hkl := n.kids_lt
  unfold big at hb
  rw [w64 (by omega) (by omega)]
  unfold cutL
  simp only [Option.getD_some, Option.getD_none]
  rw [if_pos (by omega)]
  have : ((n.kids.length : Int) - 1).toNat = n.kids.length - 1 := by omega
  simp [this]
section
variable {V : List ByteArray}
theorem unL_in : ∀ {l : List Api_NamesA} {s : Api_NamesA}, Good V s → (∀ x ∈ l, Good V x) → ∀ v, inS (unL s l) v = true ↔ (inS s v = true ∨ ∃ x ∈ l, inS x v = true)
  | [], s, h, _, v => by simp [unL]
  | x :: l, s, h, hl, v => by
    have hx := hl x (List.mem_cons_self ..)
    have := unL_in (l := l) (s := unionS s x) (good_union h hx) (fun y hy => hl y (List.mem_cons_of_mem _ hy)) v
    show inS (unL (unionS s x) l) v = true ↔ _
    rw [this, union_in h hx, Bool.or_eq_true]
    simp [or_assoc]
end
section
variable {V : List ByteArray}
theorem unL_all : ∀ {l : List Api_NamesA} {s : Api_NamesA}, s.all = false → (∀ x ∈ l, x.all = false) → (unL s l).all = false
  | [], s, h, _ => h
  | x :: l, s, h, hl => by
    show (unL (unionS s x) l).all = false
    exact unL_all (by rw [union_all, h, hl x (List.mem_cons_self ..)]; rfl) fun y hy => hl y (List.mem_cons_of_mem _ hy)
end
theorem sorts2 {n : NodeA} {a b : Int} (hf : Fine n) (h : sortsC n = [a, b]) : ∃ k0 k1, n.kids = [k0, k1] ∧ sortS k0.op = a ∧ sortS k1.op = b := by
  have := fine_sorts hf
  rw [h] at this
  match hk : n.kids, this with
  | [k0, k1], this => simp at this; exact ⟨k0, k1, rfl, this.1, this.2⟩
theorem sorts1 {n : NodeA} {a : Int} (hf : Fine n) (h : sortsC n = [a]) : ∃ k0, n.kids = [k0] ∧ sortS k0.op = a := by
  have := fine_sorts hf
  rw [h] at this
  match hk : n.kids, this with
  | [k0], this => simp at this; exact ⟨k0, rfl, this⟩
end Go.Proofs.YtngmfimpaembnaaGreatDoor
