/- Part of the proof of a law: contracts of the functions that the law reaches, or plain laws of them, out of the abstract layer (the texts YtcgphoghmgeecaaIso..). No condition. -/
import Derived.Test.YtcgphoghmgeecaaLsets
import Derived.Test.YtcgphoghmgeecaaLroot
import Derived.Test.YtcgphoghmgeecaaPb
import Derived.KernelRfl
namespace Go.Proofs.Ytcgphoghmgeecaa
open Go Go.Iso Go.Proofs
set_option linter.unusedSimpArgs false
set_option linter.unusedVariables false
set_option maxRecDepth 100000

/-! ### The names of a tree -/
def namesN : NodeA → List ByteArray
  | .mk _ name _ kids => name :: (kids.attach.map fun ⟨k, _⟩ => namesN k).flatten
termination_by n => SizeOf.sizeOf n
decreasing_by exact NodeA.size_kid (by assumption)
theorem names_mk {o : Int} {m : ByteArray} {r : RatA} {ks : List NodeA} : namesN (.mk o m r ks) = m :: (ks.map namesN).flatten := by
  rw [namesN]; simp
theorem names_len : ∀ n : NodeA, (namesN n).length = n.size := NodeA.ind fun n ih => by
  cases n with
  | mk o m r ks =>
    rw [names_mk, NodeA.size_mk, List.length_cons, List.length_flatten, List.map_map]
    have : ks.map (List.length ∘ namesN) = ks.map NodeA.size := List.map_congr_left fun k hk => ih k hk
    rw [this]; omega
theorem names_self (n : NodeA) : n.name ∈ namesN n := by cases n; rw [names_mk]; exact List.mem_cons_self ..
theorem names_kid {n k : NodeA} (hk : k ∈ n.kids) {x : ByteArray} (hx : x ∈ namesN k) : x ∈ namesN n := by
  cases n with
  | mk o m r ks =>
    rw [names_mk]
    exact List.mem_cons_of_mem _ (List.mem_flatten.2 ⟨_, List.mem_map_of_mem hk, hx⟩)
def uniL (n : NodeA) : List ByteArray := (namesN n).filter nameB ++ ((namesN n).filter nameB).map (· ++ tick)
/-- The tree's names, with their primes, are in V. -/
def Cov (V : List ByteArray) (n : NodeA) : Prop := ∀ x ∈ namesN n, nameB x = true → x ∈ V ∧ x ++ tick ∈ V
theorem cov_kid {V : List ByteArray} {n k : NodeA} (h : Cov V n) (hk : k ∈ n.kids) : Cov V k := fun x hx => h x (names_kid hk hx)
theorem cov_uni (n : NodeA) : Cov (uniL n) n := fun x hx hn => by
  have : x ∈ (namesN n).filter nameB := List.mem_filter.2 ⟨hx, hn⟩
  exact ⟨List.mem_append_left _ this, List.mem_append_right _ (List.mem_map_of_mem this)⟩
theorem uni_uni {n : NodeA} (h : n.size ≤ 100000000) : Uni (uniL n) where
  siz := fun x hx => by
    unfold uniL at hx
    rcases List.mem_append.1 hx with hx | hx
    · have := (name_size (List.mem_filter.1 hx).2).2; omega
    · obtain ⟨y, hy, rfl⟩ := List.mem_map.1 hx
      have := (name_size (List.mem_filter.1 hy).2).2
      rw [tick_size]; omega
  top := by
    unfold uniL topV
    rw [List.length_append, List.length_map]
    have := List.length_filter_le nameB (namesN n)
    rw [names_len] at this; omega
  cls := fun x hx h39 => by
    unfold uniL at hx ⊢
    rcases List.mem_append.1 hx with hx | hx
    · exact List.mem_append_right _ (List.mem_map_of_mem hx)
    · obtain ⟨y, hy, rfl⟩ := List.mem_map.1 hx
      exact absurd tick_last h39
theorem name_last {x : ByteArray} (h : nameB x = true) : x[x.size - 1]? ≠ some 39 := by
  intro h39
  have hs := (name_size h).1
  unfold nameB at h
  rw [Bool.and_eq_true, List.all_eq_true] at h
  have := h.2 (x.size - 1) (List.mem_range.2 (by omega))
  rw [h39] at this
  have e : (letB ((39 : UInt8).toNat : Int)) = false := by decide
  have e2 : (digB ((39 : UInt8).toNat : Int)) = false := by decide
  rw [Option.all_some, e, e2] at this
  simp at this
theorem name_var {x : ByteArray} (h : nameB x = true) : varB x = true := by
  unfold varB unpB
  rw [if_neg (fun h2 => name_last h h2.2)]; exact h
theorem tick_var {x : ByteArray} (h : nameB x = true) : varB (x ++ tick) = true := by
  unfold varB; rw [unp_tick]; exact h

/-! ### What is known of nodes -/
theorem fine_name {n : NodeA} (h : Fine n) (hn : namedS n.op = true) : nameB n.name = true := by
  obtain ⟨d, fd, fl, h⟩ := h
  rw [okS_eq] at h
  simp only [Bool.and_eq_true] at h
  have := h.2.1
  unfold nameC at this
  rw [hn] at this
  simpa using this
theorem fine_sorts {n : NodeA} (h : Fine n) : (n.kids.map fun x => sortS x.op) = sortsC n := by
  obtain ⟨d, fd, fl, h⟩ := h
  rw [okS_eq] at h
  simp only [Bool.and_eq_true] at h
  exact eq_of_beq h.2.2.2.1
theorem fine_len {n : NodeA} (h : Fine n) : n.kids.length = (sortsC n).length := by rw [← fine_sorts h, List.length_map]
theorem kid0 {n : NodeA} (h : 0 < n.kids.length) : ∃ k ∈ n.kids, idx n.kids 0 = some k ∧ n.kids[0]? = some k := ⟨n.kids[0], List.getElem_mem h, by rw [show (0 : Int) = ((0 : Nat) : Int) from rfl, idx_nat]; exact List.getElem?_eq_getElem h, List.getElem?_eq_getElem h⟩
theorem kid1 {n : NodeA} (h : 1 < n.kids.length) : ∃ k ∈ n.kids, idx n.kids 1 = some k ∧ n.kids[1]? = some k := ⟨n.kids[1], List.getElem_mem h, by rw [show (1 : Int) = ((1 : Nat) : Int) from rfl, idx_nat]; exact List.getElem?_eq_getElem h, List.getElem?_eq_getElem h⟩
abbrev noneS : Api_NamesA := ⟨false, []⟩
abbrev allS : Api_NamesA := ⟨true, []⟩
abbrev oneS (x : ByteArray) : Api_NamesA := ⟨false, [x]⟩
/-- The union of all. -/
def unL (s : Api_NamesA) (l : List Api_NamesA) : Api_NamesA := l.foldl unionS s

section
variable {V : List ByteArray}
theorem good_unL : ∀ {l : List Api_NamesA} {s : Api_NamesA}, Good V s → (∀ x ∈ l, Good V x) → Good V (unL s l)
  | [], s, h, _ => h
  | x :: l, s, h, hl => good_unL (l := l) (good_union h (hl x (List.mem_cons_self ..))) fun y hy => hl y (List.mem_cons_of_mem _ hy)
theorem loop_eq {K : Nat} (L : List NodeA) {self : NodeA → Option Api_NamesA} (f : NodeA → Api_NamesA) {s0 : Api_NamesA} {φ : (Int × Api_NamesA → Option Api_NamesA) → Int × Api_NamesA → Option Api_NamesA} (hs : ∀ x ∈ L, self x = some (f x)) (hg : ∀ x ∈ L, Good V (f x)) (h0 : Good V s0) (hK : KOk V K) (hL : L.length < K) (hb : L.length ≤ big)
    (h1 : ∀ (g : Int × Api_NamesA → Option Api_NamesA) (i : Nat) (s : Api_NamesA) (x : NodeA), decide ((i : Int) < (L.length : Int)) = true → L[i]? = some x → φ g ((i : Int), s) = (self x).bind fun r => (static_union K s r).bind fun r2 => g (IntKind.wrap .i64 ((i : Int) + 1), r2))
    (h2 : ∀ (g : Int × Api_NamesA → Option Api_NamesA) (s : Api_NamesA), φ g ((L.length : Int), s) = some s) : iter K φ (0, s0) = some (unL s0 (L.map f)) := by
  unfold big at hb
  have hgu : ∀ i, Good V (unL s0 ((L.take i).map f)) := fun i => good_unL h0 fun x hx => by
    obtain ⟨y, hy, rfl⟩ := List.mem_map.1 hx
    exact hg y (List.mem_of_mem_take hy)
  refine foldG L.length (fun i => ((i : Int), unL s0 ((L.take i).map f))) _ (fun g i hi => ?_) (fun g => ?_) hL rfl
  · have hx : L[i]? = some L[i] := List.getElem?_eq_getElem hi
    have hm := List.getElem_mem hi
    have hd : decide ((i : Int) < (L.length : Int)) = true := decide_eq_true (by omega)
    rw [h1 g i _ _ hd hx]
    simp only [Option.bind_some, hs _ hm, static_union_eq (hgu i) (hg _ hm) hK]
    have et : unL s0 ((L.take (i + 1)).map f) = unionS (unL s0 ((L.take i).map f)) (f L[i]) := by
      rw [List.take_add_one, hx]
      simp only [Option.toList_some, List.map_append, List.map_cons, List.map_nil, unL, List.foldl_append, List.foldl_cons, List.foldl_nil]
    rw [w64s (by omega), et]
  · rw [h2, List.take_length]

/-! ### Bound variables -/
def KS (V : List ByteArray) (n : NodeA) (K : Nat) : Prop := KOk V K ∧ 2 * n.size + 2 < K
theorem ks_kid {n k : NodeA} {K : Nat} (h : KS V n K) (hk : k ∈ n.kids) : KS V k K := ⟨h.1, by have := NodeA.size_lt hk; have := h.2; omega⟩
def IsB (V : List ByteArray) (t : Nat) (n : NodeA) (F : Api_NamesA) : Prop := Good V F ∧ ∀ K j, KS V n K → t < j → (grp_static_BoundOf K j).1 n = some F
def IsE (V : List ByteArray) (t : Nat) (n : NodeA) (F : Api_NamesA) : Prop := Good V F ∧ ∀ K j, KS V n K → t < j → (grp_static_BoundOf K j).2 n = some F
noncomputable def bndS (V : List ByteArray) (n : NodeA) : Api_NamesA := Classical.epsilon (h := ⟨noneS⟩) fun F => IsB V (2 * n.size + 1) n F
noncomputable def evS (V : List ByteArray) (n : NodeA) : Api_NamesA := Classical.epsilon (h := ⟨noneS⟩) fun F => IsE V (2 * n.size + 1) n F
theorem ks_ex (n : NodeA) : KS V n (2 * n.size + 2 * V.length + 13) := ⟨⟨by omega, by omega⟩, by omega⟩
theorem bnd_of {n : NodeA} {t : Nat} {F : Api_NamesA} (h : IsB V t n F) (ht : t ≤ 2 * n.size + 1) : IsB V (2 * n.size + 1) n (bndS V n) ∧ bndS V n = F := by
  have h1 : IsB V (2 * n.size + 1) n F := ⟨h.1, fun K j hK hj => h.2 K j hK (by omega)⟩
  have h2 : IsB V (2 * n.size + 1) n (bndS V n) := Classical.epsilon_spec (p := fun F => IsB V (2 * n.size + 1) n F) ⟨F, h1⟩
  exact ⟨h2, Option.some.inj ((h2.2 _ (2 * n.size + 2) (ks_ex n) (by omega)).symm.trans (h1.2 _ (2 * n.size + 2) (ks_ex n) (by omega)))⟩
theorem ev_of {n : NodeA} {t : Nat} {F : Api_NamesA} (h : IsE V t n F) (ht : t ≤ 2 * n.size + 1) : IsE V (2 * n.size + 1) n (evS V n) ∧ evS V n = F := by
  have h1 : IsE V (2 * n.size + 1) n F := ⟨h.1, fun K j hK hj => h.2 K j hK (by omega)⟩
  have h2 : IsE V (2 * n.size + 1) n (evS V n) := Classical.epsilon_spec (p := fun F => IsE V (2 * n.size + 1) n F) ⟨F, h1⟩
  exact ⟨h2, Option.some.inj ((h2.2 _ (2 * n.size + 2) (ks_ex n) (by omega)).symm.trans (h1.2 _ (2 * n.size + 2) (ks_ex n) (by omega)))⟩
/-- What the bound variables are. -/
noncomputable def bndE (V : List ByteArray) (n : NodeA) : Api_NamesA :=
  if sortS n.op = 1 then noneS
  else if sortS n.op = 2 then evS V n
  else if n.op = 50 ∨ n.op = 52 then oneS n.name
  else if n.op = 51 then oneS (n.name ++ tick)
  else if n.op = 53 then noneS
  else if n.op = 55 then unionS (oneS n.name) (oneS (n.name ++ tick))
  else if n.op = 56 ∨ n.op = 61 ∨ n.op = 62 then allS
  else if n.op = 54 then unL noneS ((n.kids.take (n.kids.length - 1)).map (bndS V))
  else unL noneS (n.kids.map (bndS V))
noncomputable def evE (V : List ByteArray) (n : NodeA) : Api_NamesA :=
  unL (if n.op = 33 ∨ n.op = 34 then oneS n.name else if 3 ≤ sortS n.op then bndS V n else noneS) (n.kids.map (evS V))
theorem sort34 {op : Int} (h : 50 ≤ op) (h2 : op ≤ 62) : sortS op = if op = 55 ∨ op = 56 then 4 else 3 := by
  unfold sortS
  have e1 : (decide (1 ≤ op) && decide (op ≤ 13)) = false := by simp; omega
  have e2 : (decide (20 ≤ op) && decide (op ≤ 39)) = false := by simp; omega
  have e4 : (decide (50 ≤ op) && decide (op ≤ 62)) = true := by simp; omega
  rw [e1, e2, e4]
  by_cases h : op = 55 ∨ op = 56
  · have : (op == 55 || op == 56) = true := by simpa using h
    rw [this, if_pos h]; rfl
  · have : (op == 55 || op == 56) = false := by simp; omega
    rw [this, if_neg h]; rfl
theorem sort_prog {op : Int} (h : sortS op = 3 ∨ sortS op = 4) : 50 ≤ op ∧ op ≤ 62 := by
  apply Classical.byContradiction
  intro hc
  unfold sortS at h
  have e3 : (op == 55 || op == 56) = false := by simp; omega
  have e4 : (decide (50 ≤ op) && decide (op ≤ 62)) = false := by simp; omega
  rw [e3, e4] at h
  revert h
  cases (decide (1 ≤ op) && decide (op ≤ 13)) <;> cases (decide (20 ≤ op) && decide (op ≤ 39)) <;> simp
theorem good_name {n : NodeA} (hV : Uni V) (hf : Fine n) (hc : Cov V n) (hn : namedS n.op = true) : Good V (oneS n.name) ∧ Good V (oneS (n.name ++ tick)) ∧ n.name.size < 100 := by
  have h1 := fine_name hf hn
  have h2 := hc _ (names_self n) h1
  exact ⟨good_one hV (name_var h1) h2.1, good_one hV (tick_var h1) h2.2, hV.siz _ h2.1⟩
/-- The recursion, at a node whose kids are known. -/
theorem named_b {op : Int} (h : op = 2 ∨ op = 3 ∨ op = 33 ∨ op = 34 ∨ op = 50 ∨ op = 51 ∨ op = 52 ∨ op = 55) : namedS op = true := by
  rcases h with rfl | rfl | rfl | rfl | rfl | rfl | rfl | rfl <;> decide +kernel
theorem flow_cut {n : NodeA} (hf : Fine n) (hb : n.size ≤ big) (h54 : n.op = 54) : cutL n.kids none (some (IntKind.wrap .i64 ((n.kids.length : Int) - 1))) = some (n.kids.take (n.kids.length - 1)) ∧ 0 < n.kids.length := by
  have hl := fine_len hf
  have : 0 < n.kids.length := by
    have e : sortsC n = List.replicate (n.kids.length - 1) 4 ++ [2] := by unfold sortsC; rw [h54]; rfl
    rw [e] at hl; simp at hl; omega
  refine ⟨?_, this⟩
  have hkl := n.kids_lt
  unfold big at hb
  rw [w64 (by omega) (by omega)]
  unfold cutL
  simp only [Option.getD_some, Option.getD_none]
  rw [if_pos (by omega)]
  have : ((n.kids.length : Int) - 1).toNat = n.kids.length - 1 := by omega
  simp [this]
theorem static_one_eq {K : Nat} {x : ByteArray} : static_one K x = some (oneS x) := nrfl rfl
theorem static_everything_eq {K : Nat} : static_everything K = some allS := nrfl rfl
theorem sort_cases (op : Int) : sortS op = 0 ∨ sortS op = 1 ∨ sortS op = 2 ∨ sortS op = 3 ∨ sortS op = 4 := by
  unfold sortS
  split
  · simp
  · split
    · simp
    · split
      · simp
      · split <;> simp
theorem op_cases {op : Int} (h : sortS op = 3 ∨ sortS op = 4) : op = 50 ∨ op = 51 ∨ op = 52 ∨ op = 53 ∨ op = 54 ∨ op = 55 ∨ op = 56 ∨ op = 57 ∨ op = 58 ∨ op = 59 ∨ op = 60 ∨ op = 61 ∨ op = 62 := by
  have := sort_prog h; omega
/-- The loop over kids. -/
def kidsR (K : Nat) (self : NodeA → Option Api_NamesA) (L : List NodeA) : (Int × Api_NamesA → Option Api_NamesA) → Int × Api_NamesA → Option Api_NamesA := fun again x =>
  if decide (x.1 < (L.length : Int)) then (idx L x.1).bind fun x50 => (self x50).bind fun r52 => (static_union K x.2 r52).bind fun r54 => again (IntKind.wrap .i64 (x.1 + (1 : Int)), r54) else some x.2
theorem kids_eq {K : Nat} (L : List NodeA) {self : NodeA → Option Api_NamesA} (f : NodeA → Api_NamesA) {s0 : Api_NamesA} (hs : ∀ x ∈ L, self x = some (f x)) (hg : ∀ x ∈ L, Good V (f x)) (h0 : Good V s0) (hK : KOk V K) (hL : L.length < K) (hb : L.length ≤ big) : iter K (kidsR K self L) (0, s0) = some (unL s0 (L.map f)) := by
  refine loop_eq L f hs hg h0 hK hL hb (fun g i s x hd hx => ?_) fun g s => ?_
  · unfold kidsR; simp only [hd, if_true, idx_nat, hx, Option.bind_some]
  · have hd : decide ((L.length : Int) < (L.length : Int)) = false := by simp
    unfold kidsR; simp only [hd, Bool.false_eq_true, if_false]
section
variable {K : Nat} {s1 s2 : NodeA → Option Api_NamesA} {m : ByteArray} {r : RatA} {ks : List NodeA}
theorem bb50 : static_BoundOf_body K s1 s2 (.mk 50 m r ks) = some (oneS m) := by kernel_rfl
theorem bb52 : static_BoundOf_body K s1 s2 (.mk 52 m r ks) = some (oneS m) := by kernel_rfl
theorem bb51 {s : ByteArray} (hc : catO m tick = some s) : static_BoundOf_body K s1 s2 (.mk 51 m r ks) = some (oneS s) := by
  unfold static_BoundOf_body
  simp only [NodeA.name_mk]
  generalize catO m ⟨#[39]⟩ = c at hc ⊢
  subst hc
  kernel_rfl
theorem bb55 {s : ByteArray} {u : Api_NamesA} (hc : catO m tick = some s) (hu : static_union K (oneS m) (oneS s) = some u) : static_BoundOf_body K s1 s2 (.mk 55 m r ks) = some u := by
  unfold static_BoundOf_body
  simp only [NodeA.name_mk]
  generalize catO m ⟨#[39]⟩ = c at hc ⊢
  subst hc
  generalize static_union K = U at hu ⊢
  exact ob _ (Eq.trans (b := (U (oneS m) (oneS s)).bind fun r => outM (some r)) (by kernel_rfl) (ob u hu rfl)) rfl
theorem bb54 {l : List NodeA} {u : Api_NamesA} (hc : cutL ks none (some (IntKind.wrap .i64 ((ks.length : Int) - 1))) = some l) (hu : iter K (kidsR K s1 l) (0, noneS) = some u) : static_BoundOf_body K s1 s2 (.mk 54 m r ks) = some u := by
  unfold static_BoundOf_body
  simp only [NodeA.name_mk, NodeA.kids_mk]
  generalize catO m ⟨#[39]⟩ = c
  generalize cutL ks none (some (IntKind.wrap .i64 ((ks.length : Int) - 1))) = l' at hc ⊢
  subst hc
  exact ob _ (Eq.trans (b := (iter K (kidsR K s1 l) (0, noneS)).bind fun r => outM (some r)) (by kernel_rfl) (ob u hu rfl)) rfl
/-- At a node that is no program: by its sort. -/
theorem bbS {n : NodeA} : static_BoundOf_body K s1 s2 n = (fun so : Int => if so = 0 ∨ so = 1 ∨ so = 2 then (if so = 1 then some noneS else if so = 2 then s2 n else (iter K (kidsR K s1 n.kids) (0, noneS)).bind fun e => some e) else static_BoundOf_body K s1 s2 n) (sortS n.op) := by
  rcases sort_cases n.op with h | h | h | h | h
  all_goals
    simp only [h, Int.reduceEq, or_true, true_or, or_self, if_true, if_false]
  all_goals
    unfold static_BoundOf_body
    rw [tree_Sort_eq, h]
  · kernel_rfl
  · kernel_rfl
  · cases s2 n <;> kernel_rfl
theorem bb53 : static_BoundOf_body K s1 s2 (.mk 53 m r ks) = some noneS := by kernel_rfl
theorem bb56 : static_BoundOf_body K s1 s2 (.mk 56 m r ks) = some allS := by kernel_rfl
theorem bb61 : static_BoundOf_body K s1 s2 (.mk 61 m r ks) = some allS := by kernel_rfl
theorem bb62 : static_BoundOf_body K s1 s2 (.mk 62 m r ks) = some allS := by kernel_rfl
theorem bb57 : static_BoundOf_body K s1 s2 (.mk 57 m r ks) = (iter K (kidsR K s1 ks) (0, noneS)).bind fun e => some e := by kernel_rfl
theorem bb58 : static_BoundOf_body K s1 s2 (.mk 58 m r ks) = (iter K (kidsR K s1 ks) (0, noneS)).bind fun e => some e := by kernel_rfl
theorem bb59 : static_BoundOf_body K s1 s2 (.mk 59 m r ks) = (iter K (kidsR K s1 ks) (0, noneS)).bind fun e => some e := by kernel_rfl
theorem bb60 : static_BoundOf_body K s1 s2 (.mk 60 m r ks) = (iter K (kidsR K s1 ks) (0, noneS)).bind fun e => some e := by kernel_rfl
end
theorem bound_at {n : NodeA} (hV : Uni V) (hf : Fine n) (hc : Cov V n) (hb : n.size ≤ big) (hkB : ∀ k ∈ n.kids, IsB V (2 * k.size + 1) k (bndS V k)) {t : Nat} (ht : 2 * n.size ≤ t + 1) (hE : sortS n.op = 2 → IsE V t n (evS V n)) : IsB V (t + 1) n (bndE V n) := by
  have hkl := n.kids_lt
  have hgo : namedS n.op = true → Good V (oneS n.name) ∧ Good V (oneS (n.name ++ tick)) ∧ n.name.size < 100 := good_name hV hf hc
  have hL : ∀ L : List NodeA, (∀ k ∈ L, k ∈ n.kids) → Good V (unL noneS (L.map (bndS V))) := fun L hL => good_unL (good_none hV _) fun x hx => by
    obtain ⟨k, hk, rfl⟩ := List.mem_map.1 hx
    exact (hkB k (hL k hk)).1
  have hsf : ∀ (K j : Nat) (L : List NodeA), KS V n K → t < j → (∀ k ∈ L, k ∈ n.kids) → ∀ x ∈ L, (grp_static_BoundOf K j).1 x = some (bndS V x) := fun K j L hK hj hLk x hx => (hkB x (hLk x hx)).2 K j (ks_kid hK (hLk x hx)) (by have := NodeA.size_lt (hLk x hx); omega)
  have hgood : Good V (bndE V n) := by
    unfold bndE
    by_cases h1 : sortS n.op = 1
    · rw [if_pos h1]; exact good_none hV _
    rw [if_neg h1]
    by_cases h2 : sortS n.op = 2
    · rw [if_pos h2]; exact (hE h2).1
    rw [if_neg h2]
    by_cases h3 : n.op = 50 ∨ n.op = 52
    · rw [if_pos h3]; exact (hgo (named_b (by omega))).1
    rw [if_neg h3]
    by_cases h4 : n.op = 51
    · rw [if_pos h4]; exact (hgo (named_b (by omega))).2.1
    rw [if_neg h4]
    by_cases h5 : n.op = 53
    · rw [if_pos h5]; exact good_none hV _
    rw [if_neg h5]
    by_cases h6 : n.op = 55
    · rw [if_pos h6]; exact good_union (hgo (named_b (by omega))).1 (hgo (named_b (by omega))).2.1
    rw [if_neg h6]
    split
    · exact good_none hV _
    split
    · exact hL _ fun k hk => List.mem_of_mem_take hk
    · exact hL _ fun k hk => hk
  refine ⟨hgood, fun K j hK hj => ?_⟩
  obtain ⟨j, rfl⟩ : ∃ i, j = i + 1 := ⟨j - 1, by omega⟩
  show static_BoundOf_body K (grp_static_BoundOf K j).1 (grp_static_BoundOf K j).2 n = some (bndE V n)
  have hk0 : n.kids.length < K := by have := hK.2; omega
  have hl1 := kids_eq (V := V) n.kids (bndS V) (hsf K j _ hK (by omega) fun k hk => hk) (fun x hx => (hkB x hx).1) (good_none hV false) hK.1 hk0 (by omega)
  by_cases h34 : sortS n.op = 3 ∨ sortS n.op = 4
  · have hs1 : sortS n.op ≠ 1 := by omega
    have hs2 : sortS n.op ≠ 2 := by omega
    have hc39 : ∀ h : namedS n.op = true, catO n.name tick = some (n.name ++ tick) := fun h => catO_tick (hgo h).2.2
    unfold bndE
    rw [if_neg hs1, if_neg hs2]
    have h0 := op_cases h34
    clear hE hs1 hs2 h34 hL hgood
    obtain ⟨op, m, r, ks⟩ := n
    simp only [NodeA.op_mk, NodeA.name_mk, NodeA.kids_mk] at *
    rcases h0 with h | h | h | h | h | h | h | h | h | h | h | h | h <;> subst h
    · exact bb50
    · exact bb51 (hc39 (named_b (by omega)))
    · exact bb52
    · exact bb53
    · obtain ⟨hcut, hpos⟩ := flow_cut hf hb rfl
      simp only [NodeA.kids_mk] at hcut hpos
      exact bb54 hcut (kids_eq (V := V) (ks.take (ks.length - 1)) (bndS V) (hsf K j _ hK (by omega) fun k hk => List.mem_of_mem_take hk) (fun x hx => (hkB x (List.mem_of_mem_take hx)).1) (good_none hV false) hK.1 (by rw [List.length_take]; omega) (by rw [List.length_take]; omega))
    · have hn : namedS 55 = true := named_b (by omega)
      exact bb55 (hc39 hn) (static_union_eq (hgo hn).1 (hgo hn).2.1 hK.1)
    · exact bb56
    · rw [bb57, hl1]; rfl
    · rw [bb58, hl1]; rfl
    · rw [bb59, hl1]; rfl
    · rw [bb60, hl1]; rfl
    · exact bb61
    · exact bb62
  · rcases sort_cases n.op with h | h | h | h | h
    · have hno : ∀ k : Nat, 50 ≤ k → k ≤ 62 → n.op ≠ (k : Int) := fun k h1 h2 e => by
        have := sort34 (op := n.op) (by omega) (by omega)
        rw [h] at this; split at this <;> cases this
      have h50 := hno 50 (by omega) (by omega); have h51 := hno 51 (by omega) (by omega); have h52 := hno 52 (by omega) (by omega); have h53 := hno 53 (by omega) (by omega); have h54 := hno 54 (by omega) (by omega)
      have h55 := hno 55 (by omega) (by omega); have h56 := hno 56 (by omega) (by omega); have h61 := hno 61 (by omega) (by omega); have h62 := hno 62 (by omega) (by omega)
      unfold bndE
      rw [if_neg (show ¬ sortS n.op = 1 by omega), if_neg (show ¬ sortS n.op = 2 by omega), if_neg (show ¬ (n.op = 50 ∨ n.op = 52) by omega), if_neg (show ¬ n.op = 51 by omega), if_neg (show ¬ n.op = 53 by omega), if_neg (show ¬ n.op = 55 by omega), if_neg (show ¬ (n.op = 56 ∨ n.op = 61 ∨ n.op = 62) by omega), if_neg (show ¬ n.op = 54 by omega)]
      rw [bbS, h]; exact ob _ hl1 rfl
    · unfold bndE
      rw [if_pos h, bbS, h]; rfl
    · have he := (hE h).2 K j hK (by omega)
      unfold bndE
      rw [if_neg (show ¬ sortS n.op = 1 by omega), if_pos h, bbS, h]; exact he
    · exact absurd (.inl h) h34
    · exact absurd (.inr h) h34

/-! ### Everywhere -/
section
variable {K : Nat} {s1 s2 : NodeA → Option Api_NamesA} {m : ByteArray} {r : RatA} {ks : List NodeA}
theorem eb33 : static_everywhere_body K s1 s2 (.mk 33 m r ks) = (iter K (kidsR K s2 ks) (0, oneS m)).bind fun e => some e := by kernel_rfl
theorem eb34 : static_everywhere_body K s1 s2 (.mk 34 m r ks) = (iter K (kidsR K s2 ks) (0, oneS m)).bind fun e => some e := by kernel_rfl
theorem ebN {n : NodeA} (h33 : n.op ≠ 33) (h34 : n.op ≠ 34) (h : sortS n.op < 3) : static_everywhere_body K s1 s2 n = (iter K (kidsR K s2 n.kids) (0, noneS)).bind fun e => some e := by
  have b33 : (n.op == 33) = false := beq_eq_false_iff_ne.2 h33
  have b34 : (n.op == 34) = false := beq_eq_false_iff_ne.2 h34
  have b3 : decide ((3 : Int) ≤ sortS n.op) = false := decide_eq_false (by omega)
  unfold static_everywhere_body
  rw [b33, b34, tree_Sort_eq]
  generalize sortS n.op = so at b3
  refine Eq.trans (b := (((some false : Option Bool).bind fun v => if v then (static_one K n.name).bind fun r7 => some (r7.all, r7.list) else (some so).bind fun r9 => if decide ((3 : Int) ≤ r9) then (s1 n).bind fun r12 => some (r12.all, r12.list) else some (false, [])).bind fun x => (iter K (kidsR K s2 n.kids) (0, Api_NamesA.mk x.1 x.2)).bind fun e => some e)) (by kernel_rfl) ?_
  rw [Option.bind_some, if_neg (by simp), Option.bind_some, b3]; rfl
theorem ebP {n : NodeA} {B : Api_NamesA} (h33 : n.op ≠ 33) (h34 : n.op ≠ 34) (h : 3 ≤ sortS n.op) (hB : s1 n = some B) : static_everywhere_body K s1 s2 n = (iter K (kidsR K s2 n.kids) (0, B)).bind fun e => some e := by
  have b33 : (n.op == 33) = false := beq_eq_false_iff_ne.2 h33
  have b34 : (n.op == 34) = false := beq_eq_false_iff_ne.2 h34
  have b3 : decide ((3 : Int) ≤ sortS n.op) = true := decide_eq_true h
  unfold static_everywhere_body
  rw [b33, b34, tree_Sort_eq]
  generalize sortS n.op = so at b3
  refine Eq.trans (b := (((some false : Option Bool).bind fun v => if v then (static_one K n.name).bind fun r7 => some (r7.all, r7.list) else (some so).bind fun r9 => if decide ((3 : Int) ≤ r9) then (s1 n).bind fun r12 => some (r12.all, r12.list) else some (false, [])).bind fun x => (iter K (kidsR K s2 n.kids) (0, Api_NamesA.mk x.1 x.2)).bind fun e => some e)) (by kernel_rfl) ?_
  rw [Option.bind_some, if_neg (by simp), Option.bind_some, b3, if_pos rfl, hB]; rfl
end
theorem ev_at {n : NodeA} (hV : Uni V) (hf : Fine n) (hc : Cov V n) (hb : n.size ≤ big) (hkE : ∀ k ∈ n.kids, IsE V (2 * k.size + 1) k (evS V k)) {t : Nat} (ht : 2 * n.size ≤ t + 1) (hB : 3 ≤ sortS n.op → IsB V t n (bndS V n)) : IsE V (t + 1) n (evE V n) := by
  have hkl := n.kids_lt
  have hhead : Good V (if n.op = 33 ∨ n.op = 34 then oneS n.name else if 3 ≤ sortS n.op then bndS V n else noneS) := by
    split
    · exact (good_name hV hf hc (named_b (by omega))).1
    · split
      · next h => exact (hB h).1
      · exact good_none hV _
  refine ⟨good_unL hhead fun x hx => by obtain ⟨k, hk, rfl⟩ := List.mem_map.1 hx; exact (hkE k hk).1, fun K j hK hj => ?_⟩
  obtain ⟨j, rfl⟩ : ∃ i, j = i + 1 := ⟨j - 1, by omega⟩
  show static_everywhere_body K (grp_static_BoundOf K j).1 (grp_static_BoundOf K j).2 n = some (evE V n)
  have hk0 : n.kids.length < K := by have := hK.2; omega
  have hl : ∀ s0, Good V s0 → iter K (kidsR K (grp_static_BoundOf K j).2 n.kids) (0, s0) = some (unL s0 (n.kids.map (evS V))) := fun s0 h0 => kids_eq (V := V) n.kids (evS V) (fun x hx => (hkE x hx).2 K j (ks_kid hK hx) (by have := NodeA.size_lt hx; omega)) (fun x hx => (hkE x hx).1) h0 hK.1 hk0 (by omega)
  unfold evE at *
  by_cases h : n.op = 33 ∨ n.op = 34
  · rw [if_pos h] at hhead ⊢
    have hl1 := hl _ hhead
    clear hB hhead hl
    obtain ⟨op, m, r, ks⟩ := n
    simp only [NodeA.op_mk, NodeA.name_mk, NodeA.kids_mk] at *
    rcases h with h | h <;> subst h
    · rw [eb33, hl1]; rfl
    · rw [eb34, hl1]; rfl
  · rw [if_neg h] at hhead ⊢
    by_cases h3 : 3 ≤ sortS n.op
    · rw [if_pos h3] at hhead ⊢
      rw [ebP (fun e => h (.inl e)) (fun e => h (.inr e)) h3 ((hB h3).2 K j hK (by omega)), hl _ hhead]; rfl
    · rw [if_neg h3] at hhead ⊢
      rw [ebN (fun e => h (.inl e)) (fun e => h (.inr e)) (by omega), hl _ hhead]; rfl
theorem bound_ev (hV : Uni V) : ∀ n : NodeA, Fine n → Cov V n → n.size ≤ big → (IsB V (2 * n.size + 1) n (bndS V n) ∧ bndS V n = bndE V n) ∧ IsE V (2 * n.size + 1) n (evS V n) ∧ evS V n = evE V n := by
  refine NodeA.ind fun n ih => ?_
  intro hf hc hb
  have hk : ∀ k ∈ n.kids, (IsB V (2 * k.size + 1) k (bndS V k) ∧ bndS V k = bndE V k) ∧ IsE V (2 * k.size + 1) k (evS V k) ∧ evS V k = evE V k := fun k hk => ih k hk (fine_kid hf hk) (cov_kid hc hk) (by have := NodeA.size_lt hk; omega)
  have hp := n.size_pos
  by_cases h2 : sortS n.op = 2
  · have he := ev_at (t := 2 * n.size - 1) hV hf hc hb (fun k h => (hk k h).2.1) (by omega) (fun h => by omega)
    have he' := ev_of he (by omega)
    have hbn := bound_at (t := 2 * n.size) hV hf hc hb (fun k h => (hk k h).1.1) (by omega) (fun _ => ⟨he'.1.1, fun K j hK hj => by rw [he'.2]; exact he.2 K j hK (by omega)⟩)
    exact ⟨bnd_of hbn (by omega), he'⟩
  · have hbn := bound_at (t := 2 * n.size - 1) hV hf hc hb (fun k h => (hk k h).1.1) (by omega) (fun h => absurd h h2)
    have hb' := bnd_of hbn (by omega)
    have he := ev_at (t := 2 * n.size) hV hf hc hb (fun k h => (hk k h).2.1) (by omega) (fun _ => ⟨hb'.1.1, fun K j hK hj => by rw [hb'.2]; exact hbn.2 K j hK (by omega)⟩)
    exact ⟨hb', ev_of he (by omega)⟩

/-! ### Must-bound variables -/
theorem unL_in : ∀ {l : List Api_NamesA} {s : Api_NamesA}, Good V s → (∀ x ∈ l, Good V x) → ∀ v, inS (unL s l) v = true ↔ (inS s v = true ∨ ∃ x ∈ l, inS x v = true)
  | [], s, h, _, v => by simp [unL]
  | x :: l, s, h, hl, v => by
    have hx := hl x (List.mem_cons_self ..)
    have := unL_in (l := l) (s := unionS s x) (good_union h hx) (fun y hy => hl y (List.mem_cons_of_mem _ hy)) v
    show inS (unL (unionS s x) l) v = true ↔ _
    rw [this, union_in h hx, Bool.or_eq_true]
    simp [or_assoc]
theorem unL_all : ∀ {l : List Api_NamesA} {s : Api_NamesA}, s.all = false → (∀ x ∈ l, x.all = false) → (unL s l).all = false
  | [], s, h, _ => h
  | x :: l, s, h, hl => by
    show (unL (unionS s x) l).all = false
    exact unL_all (by rw [union_all, h, hl x (List.mem_cons_self ..)]; rfl) fun y hy => hl y (List.mem_cons_of_mem _ hy)
def mustR (K : Nat) (L : List NodeA) : (Int × Api_NamesA → Option Api_NamesA) → Int × Api_NamesA → Option Api_NamesA := fun again x =>
  if decide (x.1 < (L.length : Int)) then ((idx L x.1).bind fun x22 => if (x22.op == (55 : Int)) then (static_BoundOf K x22).bind fun r25 => (static_union K x.2 r25).bind fun r27 => some r27 else some x.2).bind fun v => again (IntKind.wrap .i64 (x.1 + (1 : Int)), v) else some x.2
section
variable {K : Nat} {s : NodeA → Option Api_NamesA} {m : ByteArray} {r : RatA} {ks : List NodeA}
theorem mb50 {B : Api_NamesA} {n : NodeA} (h : n.op = 50 ∨ n.op = 51 ∨ n.op = 52) (hB : static_BoundOf K n = some B) : static_MustOf_body K s n = some B := by
  obtain ⟨op, m, r, ks⟩ := n
  simp only [NodeA.op_mk] at h
  unfold static_MustOf_body
  generalize static_BoundOf K = bf at hB ⊢
  rcases h with rfl | rfl | rfl
  · exact ob _ (Eq.trans (b := (bf (.mk 50 m r ks)).bind fun r8 => outM (some r8)) (by kernel_rfl) (ob _ hB rfl)) rfl
  · exact ob _ (Eq.trans (b := (bf (.mk 51 m r ks)).bind fun r8 => outM (some r8)) (by kernel_rfl) (ob _ hB rfl)) rfl
  · exact ob _ (Eq.trans (b := (bf (.mk 52 m r ks)).bind fun r8 => outM (some r8)) (by kernel_rfl) (ob _ hB rfl)) rfl
theorem mb54 {u : Api_NamesA} (hu : iter K (mustR K ks) (0, noneS) = some u) : static_MustOf_body K s (.mk 54 m r ks) = some u := by
  unfold static_MustOf_body
  exact ob _ (Eq.trans (b := (iter K (mustR K ks) (0, noneS)).bind fun e => some (.go (e.all, e.list))) (by kernel_rfl) (ob _ hu rfl)) rfl
theorem mb57 {k0 k1 : NodeA} {a b u : Api_NamesA} (h0 : s k0 = some a) (h1 : s k1 = some b) (hu : static_union K a b = some u) : static_MustOf_body K s (.mk 57 m r [k0, k1]) = some u := by
  unfold static_MustOf_body
  exact ob _ (Eq.trans (b := (s k0).bind fun x => (s k1).bind fun y => (static_union K x y).bind fun z => outM (some z)) (by kernel_rfl) (ob _ h0 (ob _ h1 (ob _ hu rfl)))) rfl
theorem mb58 {k0 k1 : NodeA} {a b u : Api_NamesA} (h0 : s k0 = some a) (h1 : s k1 = some b) (hu : static_meet K a b = some u) : static_MustOf_body K s (.mk 58 m r [k0, k1]) = some u := by
  unfold static_MustOf_body
  exact ob _ (Eq.trans (b := (s k0).bind fun x => (s k1).bind fun y => (static_meet K x y).bind fun z => outM (some z)) (by kernel_rfl) (ob _ h0 (ob _ h1 (ob _ hu rfl)))) rfl
theorem mb60 {k0 : NodeA} {a : Api_NamesA} (h0 : s k0 = some a) : static_MustOf_body K s (.mk 60 m r [k0]) = some a := by
  unfold static_MustOf_body
  exact ob _ (Eq.trans (b := (s k0).bind fun x => outM (some x)) (by kernel_rfl) (ob _ h0 rfl)) rfl
theorem mbN {n : NodeA} (h50 : n.op ≠ 50) (h51 : n.op ≠ 51) (h52 : n.op ≠ 52) (h54 : n.op ≠ 54) (h57 : n.op ≠ 57) (h58 : n.op ≠ 58) (h60 : n.op ≠ 60) : static_MustOf_body K s n = some noneS := by
  unfold static_MustOf_body
  rw [beq_eq_false_iff_ne.2 h50, beq_eq_false_iff_ne.2 h51, beq_eq_false_iff_ne.2 h52, beq_eq_false_iff_ne.2 h54, beq_eq_false_iff_ne.2 h57, beq_eq_false_iff_ne.2 h58, beq_eq_false_iff_ne.2 h60]
  kernel_rfl
end
def IsM (V : List ByteArray) (t : Nat) (n : NodeA) (F : Api_NamesA) : Prop := Good V F ∧ ∀ K j, KS V n K → t < j → iter j (fun self q => static_MustOf_body K self q) n = some F
theorem sorts2 {n : NodeA} {a b : Int} (hf : Fine n) (h : sortsC n = [a, b]) : ∃ k0 k1, n.kids = [k0, k1] ∧ sortS k0.op = a ∧ sortS k1.op = b := by
  have := fine_sorts hf
  rw [h] at this
  match hk : n.kids, this with
  | [k0, k1], this => simp at this; exact ⟨k0, k1, rfl, this.1, this.2⟩
theorem sorts1 {n : NodeA} {a : Int} (hf : Fine n) (h : sortsC n = [a]) : ∃ k0, n.kids = [k0] ∧ sortS k0.op = a := by
  have := fine_sorts hf
  rw [h] at this
  match hk : n.kids, this with
  | [k0], this => simp at this; exact ⟨k0, rfl, this⟩
theorem bnd_rate {n : NodeA} (h : n.op = 55) : (bndE V n).all = false := by
  unfold bndE
  have e : sortS n.op = 4 := by rw [h]; rfl
  rw [if_neg (by omega), if_neg (by omega), if_neg (by omega), if_neg (by omega), if_neg (by omega), if_pos h, union_all]; rfl
theorem bnd_kids {n : NodeA} (h : n.op = 57 ∨ n.op = 58 ∨ n.op = 59 ∨ n.op = 60) : bndE V n = unL noneS (n.kids.map (bndS V)) := by
  unfold bndE
  have e : sortS n.op = 3 := by rw [sort34 (by omega) (by omega), if_neg (by omega)]
  rw [if_neg (by omega), if_neg (by omega), if_neg (by omega), if_neg (by omega), if_neg (by omega), if_neg (by omega), if_neg (by omega), if_neg (by omega)]
theorem must_loop {n : NodeA} {K : Nat} (hV : Uni V) (hK : KS V n K) (hb : n.size ≤ big) (hkB : ∀ k ∈ n.kids, IsB V (2 * k.size + 1) k (bndS V k)) :
    iter K (mustR K n.kids) (0, noneS) = some (unL noneS ((n.kids.filter fun k => k.op == 55).map (bndS V))) := by
  have hkl := n.kids_lt
  have hb' := hb
  unfold big at hb'
  have hg : ∀ l : List NodeA, (∀ k ∈ l, k ∈ n.kids) → Good V (unL noneS ((l.filter fun k => k.op == 55).map (bndS V))) := fun l hl => good_unL (good_none hV _) fun x hx => by
    obtain ⟨k, hk, rfl⟩ := List.mem_map.1 hx
    exact (hkB k (hl k (List.mem_filter.1 hk).1)).1
  refine foldG n.kids.length (fun i => ((i : Int), unL noneS (((n.kids.take i).filter fun k => k.op == 55).map (bndS V)))) _ (fun g i hi => ?_) (fun g => ?_) (by have := hK.2; omega) rfl
  · have hx : n.kids[i]? = some n.kids[i] := List.getElem?_eq_getElem hi
    have hm := List.getElem_mem hi
    have hd : decide ((i : Int) < (n.kids.length : Int)) = true := decide_eq_true (by omega)
    have hB : static_BoundOf K n.kids[i] = some (bndS V n.kids[i]) := (hkB _ hm).2 K K (ks_kid hK hm) (by have := (ks_kid hK hm).2; omega)
    have hu := static_union_eq (hg (n.kids.take i) fun k hk => List.mem_of_mem_take hk) (hkB _ hm).1 hK.1
    have et : n.kids.take (i + 1) = n.kids.take i ++ [n.kids[i]] := by rw [List.take_add_one, hx]; rfl
    unfold mustR
    simp only [hd, if_true, idx_nat, hx, Option.bind_some]
    rw [w64s (by omega), et, List.filter_append]
    cases h : n.kids[i].op == 55 with
    | true =>
      rw [if_pos rfl, hB]
      simp only [Option.bind_some]
      rw [hu]
      simp only [Option.bind_some, List.filter_cons, h, if_true, List.filter_nil, List.map_append, List.map_cons, List.map_nil]
      simp only [unL, List.foldl_append, List.foldl_cons, List.foldl_nil]
    | false =>
      rw [if_neg (by simp)]
      simp only [Option.bind_some, List.filter_cons, h, List.filter_nil, List.map_append, List.map_nil, List.append_nil, Bool.false_eq_true, if_false]
  · have hd : decide ((n.kids.length : Int) < (n.kids.length : Int)) = false := by simp
    unfold mustR
    simp only [hd, Bool.false_eq_true, if_false, List.take_length]
theorem sub_none {B : Api_NamesA} : SubS noneS B := ⟨rfl, fun v h => by rw [in_none] at h; cases h⟩
theorem must_ex (hV : Uni V) : ∀ n : NodeA, Fine n → Cov V n → n.size ≤ big → ∃ M, IsM V n.size n M ∧ (sortS n.op = 3 → SubS M (bndS V n)) := by
  refine NodeA.ind fun n ih => ?_
  intro hf hc hb
  have hk : ∀ k ∈ n.kids, ∃ M, IsM V k.size k M ∧ (sortS k.op = 3 → SubS M (bndS V k)) := fun k hk => ih k hk (fine_kid hf hk) (cov_kid hc hk) (by have := NodeA.size_lt hk; omega)
  have hkB : ∀ k ∈ n.kids, IsB V (2 * k.size + 1) k (bndS V k) ∧ bndS V k = bndE V k := fun k hk => (bound_ev hV k (fine_kid hf hk) (cov_kid hc hk) (by have := NodeA.size_lt hk; omega)).1
  obtain ⟨hB, hBe⟩ := (bound_ev hV n hf hc hb).1
  have hp := n.size_pos
  have ex : ∀ M, Good V M → (∀ K j, KS V n K → n.size ≤ j → static_MustOf_body K (iter j (fun self q => static_MustOf_body K self q)) n = some M) → (sortS n.op = 3 → SubS M (bndS V n)) → ∃ M, IsM V n.size n M ∧ (sortS n.op = 3 → SubS M (bndS V n)) := fun M h1 h2 h3 => ⟨M, ⟨h1, fun K j hK hj => by
    obtain ⟨j, rfl⟩ : ∃ i, j = i + 1 := ⟨j - 1, by omega⟩
    rw [iter_succ]
    exact h2 K j hK (by omega)⟩, h3⟩
  have two : ∀ k0 k1 : NodeA, n.kids = [k0, k1] → bndE V n = unL noneS (n.kids.map (bndS V)) → ∀ v, (inS (bndS V k0) v = true ∨ inS (bndS V k1) v = true) → inS (bndS V n) v = true := fun k0 k1 hks he v h => by
    rw [hBe, he, unL_in (good_none hV _) (fun x hx => by obtain ⟨k, hk, rfl⟩ := List.mem_map.1 hx; exact (hkB k hk).1.1), hks]
    simp only [List.map_cons, List.map_nil, List.mem_cons, List.not_mem_nil, or_false]
    rcases h with h | h
    · exact .inr ⟨_, .inl rfl, h⟩
    · exact .inr ⟨_, .inr rfl, h⟩
  by_cases h1 : n.op = 50 ∨ n.op = 51 ∨ n.op = 52
  · refine ex (bndS V n) hB.1 (fun K j hK hj => mb50 h1 (hB.2 K K hK (by have := hK.2; omega))) fun h3 => ⟨?_, fun v h => h⟩
    rw [hBe]
    unfold bndE
    have e : sortS n.op = 3 := h3
    rw [if_neg (by omega), if_neg (by omega)]
    by_cases h5 : n.op = 51
    · rw [if_neg (by omega), if_pos h5]
    · rw [if_pos (by omega)]
  by_cases h54 : n.op = 54
  · have hfil : ∀ x ∈ (n.kids.filter fun k => k.op == 55).map (bndS V), Good V x ∧ x.all = false := fun x hx => by
      obtain ⟨k, hk, rfl⟩ := List.mem_map.1 hx
      obtain ⟨hk1, hk2⟩ := List.mem_filter.1 hk
      exact ⟨(hkB k hk1).1.1, by rw [(hkB k hk1).2]; exact bnd_rate (by simpa using hk2)⟩
    refine ex (unL noneS ((n.kids.filter fun k => k.op == 55).map (bndS V))) (good_unL (good_none hV _) fun x hx => (hfil x hx).1) (fun K j hK hj => ?_) fun h3 => ⟨unL_all rfl fun x hx => (hfil x hx).2, fun v h => ?_⟩
    · have := must_loop hV hK hb fun k hk => (hkB k hk).1
      obtain ⟨op, m, r, ks⟩ := n
      simp only [NodeA.op_mk] at h54
      subst h54
      exact mb54 this
    · have hgt : ∀ x ∈ (n.kids.take (n.kids.length - 1)).map (bndS V), Good V x := fun x hx => by
        obtain ⟨k, hk, rfl⟩ := List.mem_map.1 hx
        exact (hkB k (List.mem_of_mem_take hk)).1.1
      rw [unL_in (good_none hV _) fun x hx => (hfil x hx).1] at h
      have e : bndE V n = unL noneS ((n.kids.take (n.kids.length - 1)).map (bndS V)) := by
        unfold bndE
        have e : sortS n.op = 3 := h3
        rw [if_neg (by omega), if_neg (by omega), if_neg (by omega), if_neg (by omega), if_neg (by omega), if_neg (by omega), if_neg (by omega), if_pos h54]
      rw [hBe, e, unL_in (good_none hV _) hgt]
      rcases h with h | ⟨x, hx, h⟩
      · rw [in_none] at h; cases h
      · obtain ⟨k, hk, rfl⟩ := List.mem_map.1 hx
        obtain ⟨hk1, hk2⟩ := List.mem_filter.1 hk
        refine .inr ⟨_, List.mem_map_of_mem (?_ : k ∈ _), h⟩
        have hk55 : k.op = 55 := by simpa using hk2
        obtain ⟨i, hi, rfl⟩ := List.getElem_of_mem hk1
        have hs := fine_sorts hf
        have ec : sortsC n = List.replicate (n.kids.length - 1) 4 ++ [2] := by unfold sortsC; rw [h54]; rfl
        rw [ec] at hs
        by_cases hl : i < n.kids.length - 1
        · exact List.mem_take_iff_getElem.2 ⟨i, by omega, rfl⟩
        · exfalso
          have hi' : i = n.kids.length - 1 := by omega
          have := congrArg (fun l => l[i]?) hs
          simp only [List.getElem?_map, List.getElem?_eq_getElem hi, Option.map_some] at this
          rw [List.getElem?_append_right (by rw [List.length_replicate]; omega), List.length_replicate, show i - (n.kids.length - 1) = 0 by omega] at this
          simp only [List.getElem?_cons_zero, Option.some.injEq, hk55] at this
          revert this; decide
  by_cases h57 : n.op = 57
  · obtain ⟨k0, k1, hks, e0, e1⟩ := sorts2 (a := 3) (b := 3) hf (by unfold sortsC; rw [h57]; rfl)
    have m0 : k0 ∈ n.kids := by rw [hks]; simp
    have m1 : k1 ∈ n.kids := by rw [hks]; simp
    obtain ⟨M0, i0, s0⟩ := hk k0 m0
    obtain ⟨M1, i1, s1⟩ := hk k1 m1
    refine ex (unionS M0 M1) (good_union i0.1 i1.1) (fun K j hK hj => ?_) fun h3 => ⟨by rw [union_all, (s0 e0).1, (s1 e1).1]; rfl, fun v h => ?_⟩
    · have q0 := i0.2 K j (ks_kid hK m0) (by have := NodeA.size_lt m0; omega)
      have q1 := i1.2 K j (ks_kid hK m1) (by have := NodeA.size_lt m1; omega)
      obtain ⟨op, m, r, ks⟩ := n
      simp only [NodeA.op_mk, NodeA.kids_mk] at h57 hks
      subst h57 hks
      exact mb57 q0 q1 (static_union_eq i0.1 i1.1 hK.1)
    · rw [union_in i0.1 i1.1, Bool.or_eq_true] at h
      exact two k0 k1 hks (bnd_kids (.inl h57)) v (h.imp ((s0 e0).2 v) ((s1 e1).2 v))
  by_cases h58 : n.op = 58
  · obtain ⟨k0, k1, hks, e0, e1⟩ := sorts2 (a := 3) (b := 3) hf (by unfold sortsC; rw [h58]; rfl)
    have m0 : k0 ∈ n.kids := by rw [hks]; simp
    have m1 : k1 ∈ n.kids := by rw [hks]; simp
    obtain ⟨M0, i0, s0⟩ := hk k0 m0
    obtain ⟨M1, i1, s1⟩ := hk k1 m1
    refine ex (meetS M0 M1) (good_meet i0.1 i1.1) (fun K j hK hj => ?_) fun h3 => ⟨by rw [meet_all, (s0 e0).1]; rfl, fun v h => ?_⟩
    · have q0 := i0.2 K j (ks_kid hK m0) (by have := NodeA.size_lt m0; omega)
      have q1 := i1.2 K j (ks_kid hK m1) (by have := NodeA.size_lt m1; omega)
      obtain ⟨op, m, r, ks⟩ := n
      simp only [NodeA.op_mk, NodeA.kids_mk] at h58 hks
      subst h58 hks
      exact mb58 q0 q1 (static_meet_eq i0.1 i1.1 hK.1)
    · rw [meet_in i0.1 i1.1, Bool.and_eq_true] at h
      exact two k0 k1 hks (bnd_kids (.inr (.inl h58))) v (.inl ((s0 e0).2 v h.1))
  by_cases h60 : n.op = 60
  · obtain ⟨k0, hks, e0⟩ := sorts1 (a := 3) hf (by unfold sortsC; rw [h60]; rfl)
    have m0 : k0 ∈ n.kids := by rw [hks]; simp
    obtain ⟨M0, i0, s0⟩ := hk k0 m0
    refine ex M0 i0.1 (fun K j hK hj => ?_) fun h3 => ⟨(s0 e0).1, fun v h => ?_⟩
    · have q0 := i0.2 K j (ks_kid hK m0) (by have := NodeA.size_lt m0; omega)
      obtain ⟨op, m, r, ks⟩ := n
      simp only [NodeA.op_mk, NodeA.kids_mk] at h60 hks
      subst h60 hks
      exact mb60 q0
    · rw [hBe, bnd_kids (.inr (.inr (.inr h60))), unL_in (good_none hV _) (fun x hx => by obtain ⟨k, hk, rfl⟩ := List.mem_map.1 hx; exact (hkB k hk).1.1), hks]
      exact .inr ⟨_, List.mem_cons_self .., (s0 e0).2 v h⟩
  exact ex noneS (good_none hV _) (fun K j hK hj => mbN (by omega) (by omega) (by omega) h54 h57 h58 h60) fun h3 => sub_none
end
end Go.Proofs.Ytcgphoghmgeecaa
