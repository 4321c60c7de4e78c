/- Part of the proof of a law: contracts of the functions that the law reaches, or plain laws of them, out of the abstract layer (the texts YtngmfimpaembnaaGreatDoorIso..). No condition. -/
import Derived.Test.YtngmfimpaembnaaGreatDoorLroot
import Derived.Test.YtngmfimpaembnaaGreatDoorPd
namespace Go.Proofs.YtngmfimpaembnaaGreatDoor
open Go Go.Iso Go.Proofs
set_option linter.unusedSimpArgs false
set_option linter.unusedVariables false
set_option maxRecDepth 100000
/-! ### Exchanged names -/
def varOp (op : Int) : Bool := op == 2 || (op == 3 || (op == 50 || (op == 51 || (op == 52 || (op == 55 || (op == 33 || op == 34))))))
theorem rename_variable_eq {K : Nat} {op : Int} : rename_variable K op = some (varOp op) := by
  unfold rename_variable varOp
  simp only [orO', Option.bind_some]
  cases (op == 2 || (op == 3 || (op == 50 || (op == 51 || (op == 52 || (op == 55 || (op == 33 || op == 34))))))) <;> rfl
theorem varOp_iff {op : Int} : varOp op = true ↔ op = 2 ∨ op = 3 ∨ op = 50 ∨ op = 51 ∨ op = 52 ∨ op = 55 ∨ op = 33 ∨ op = 34 := by
  unfold varOp; simp only [Bool.or_eq_true, beq_iff_eq]
theorem varOp_named {op : Int} (h : varOp op = true) : namedS op = true := by
  rcases varOp_iff.1 h with rfl | rfl | rfl | rfl | rfl | rfl | rfl | rfl <;> decide +kernel
theorem eqB {a b : ByteArray} : (a.toList == b.toList) = true ↔ a = b := by
  rw [beq_iff_eq]; exact ⟨fun h => toList_inj h, fun h => by rw [h]⟩
theorem neB {a b : ByteArray} (h : a ≠ b) : (a.toList == b.toList) = false := by
  cases e : a.toList == b.toList with
  | false => rfl
  | true => exact absurd (eqB.1 e) h
def swB (x y s : ByteArray) : ByteArray := if s.toList == x.toList then y else if s.toList == y.toList then x else s
theorem swB_x {x y : ByteArray} : swB x y x = y := by unfold swB; rw [if_pos (eqB.2 rfl)]
theorem swB_y {x y : ByteArray} : swB x y y = x := by
  unfold swB
  by_cases h : y = x
  · subst h; rw [if_pos (eqB.2 rfl)]
  · rw [if_neg (by rw [neB h]; simp), if_pos (eqB.2 rfl)]
theorem swB_o {x y s : ByteArray} (h1 : s ≠ x) (h2 : s ≠ y) : swB x y s = s := by
  unfold swB; rw [if_neg (by rw [neB h1]; simp), if_neg (by rw [neB h2]; simp)]
theorem swB_swB {x y s : ByteArray} : swB x y (swB x y s) = s := by
  by_cases h1 : s = x
  · subst h1; rw [swB_x, swB_y]
  · by_cases h2 : s = y
    · subst h2; rw [swB_y, swB_x]
    · rw [swB_o h1 h2, swB_o h1 h2]
theorem swB_inj {x y s t : ByteArray} (h : swB x y s = swB x y t) : s = t := by
  have := congrArg (swB x y) h; rwa [swB_swB, swB_swB] at this
theorem swB_name {x y s : ByteArray} (hx : nameB x = true) (hy : nameB y = true) (hs : nameB s = true) : nameB (swB x y s) = true := by
  unfold swB; split
  · exact hy
  · split
    · exact hx
    · exact hs
theorem rename_uniform_1_eq {K : Nat} {x y s : ByteArray} : rename_uniform_1 K s x y = some (swB x y s) := by
  unfold rename_uniform_1 swB
  cases s.toList == x.toList <;> cases s.toList == y.toList <;> rfl
def exN (x y : ByteArray) (op : Int) (m : ByteArray) : ByteArray := if varOp op then swB x y m else m
def exS (x y : ByteArray) : NodeA → NodeA
  | .mk o m r ks => .mk o (exN x y o m) r (ks.attach.map fun ⟨k, _⟩ => exS x y k)
termination_by n => SizeOf.sizeOf n
decreasing_by exact NodeA.size_kid (by assumption)
section
variable {x y : ByteArray}
theorem exS_mk {o : Int} {m : ByteArray} {r : RatA} {ks : List NodeA} : exS x y (.mk o m r ks) = .mk o (exN x y o m) r (ks.map (exS x y)) := by
  rw [exS]; simp
theorem exS_op (n : NodeA) : (exS x y n).op = n.op := by cases n; rw [exS_mk]; rfl
theorem exS_name (n : NodeA) : (exS x y n).name = exN x y n.op n.name := by cases n; rw [exS_mk]; rfl
theorem exS_num (n : NodeA) : (exS x y n).num = n.num := by cases n; rw [exS_mk]; rfl
theorem exS_kids (n : NodeA) : (exS x y n).kids = n.kids.map (exS x y) := by cases n; rw [exS_mk]; rfl
theorem exS_size : ∀ n, (exS x y n).size = n.size := NodeA.ind fun n ih => by
  cases n with
  | mk o m r ks =>
    rw [exS_mk, NodeA.size_mk, NodeA.size_mk, List.map_map]
    have h2 : ks.map (NodeA.size ∘ exS x y) = ks.map NodeA.size := List.map_congr_left fun k hk => ih k hk
    rw [h2]
theorem exS_lev : ∀ n, (exS x y n).lev = n.lev := NodeA.ind fun n ih => by
  cases n with
  | mk o m r ks =>
    rw [exS_mk, NodeA.lev_mk, NodeA.lev_mk, List.map_map]
    have h2 : ks.map (NodeA.lev ∘ exS x y) = ks.map NodeA.lev := List.map_congr_left fun k hk => ih k hk
    rw [h2]
theorem exS_diff : ∀ n, diffS (exS x y n) = diffS n := NodeA.ind fun n ih => by
  rw [diffS_eq, diffS_eq n, exS_op, exS_kids, List.all_map]
  have : n.kids.all (diffS ∘ exS x y) = n.kids.all diffS := by
    rw [Bool.eq_iff_iff, List.all_eq_true, List.all_eq_true]
    exact ⟨fun h k hk => (ih k hk).symm.trans (h k hk), fun h k hk => (ih k hk).trans (h k hk)⟩
  rw [this]
/-! ### Form is kept -/
theorem exS_num_ok (n : NodeA) : numC (exS x y n) = numC n := by unfold numC; rw [exS_op, exS_num]
theorem exS_sorts (n : NodeA) : sortsC (exS x y n) = sortsC n := by unfold sortsC; rw [exS_op, exS_kids, List.length_map]
theorem exS_last (n : NodeA) : lastC (exS x y n) = lastC n := by
  unfold lastC
  rw [exS_op, exS_kids, List.getElem?_map]
  cases n.kids[1]? with
  | none => rfl
  | some k => simp only [Option.map_some, Option.all_some, exS_op, exS_num]
theorem exS_nameC {n : NodeA} (hx : nameB x = true) (hy : nameB y = true) (h : nameC n = true) : nameC (exS x y n) = true := by
  unfold nameC at h ⊢
  rw [exS_op, exS_name]
  unfold exN
  cases hv : varOp n.op with
  | false => simpa using h
  | true =>
    rw [varOp_named hv] at h ⊢
    simp only [Bool.true_or, if_true] at h ⊢
    exact swB_name hx hy h
theorem exS_flow {ks : List NodeA} (h : (List.range (ks.length - 1)).all (flowK ks) = true) : (List.range ((ks.map (exS x y)).length - 1)).all (flowK (ks.map (exS x y))) = true := by
  rw [List.length_map]
  rw [List.all_eq_true] at h ⊢
  intro i hi
  have hi' : i < ks.length - 1 := by simpa using hi
  have hil : i < ks.length := by omega
  have h1 := h i hi
  unfold flowK at h1 ⊢
  rw [List.getElem?_map]
  rw [List.getElem?_eq_getElem hil] at h1 ⊢
  simp only [Option.map_some, Option.all_some, Bool.and_eq_true, List.length_map] at h1 ⊢
  rw [exS_op]
  refine ⟨h1.1, ?_⟩
  rw [List.all_eq_true]
  intro z hz
  rw [← List.map_take] at hz
  obtain ⟨y', hy', rfl⟩ := List.mem_map.1 hz
  have h2 := List.all_eq_true.1 h1.2 y' hy'
  cases h55 : ks[i].op == 55 with
  | false => rfl
  | true =>
    rw [h55] at h2
    simp only [Bool.true_and, Bool.not_eq_true'] at h2 ⊢
    obtain ⟨j, hj, e⟩ := List.mem_take_iff_getElem.1 hy'
    have hj' : j < i := by omega
    have hjl : j < ks.length := by omega
    have h3 := h j (by simp; omega)
    unfold flowK at h3
    rw [List.getElem?_eq_getElem hjl] at h3
    simp only [Option.all_some, Bool.and_eq_true, Bool.not_eq_true'] at h3
    have hop : y'.op = 55 := by
      rw [← e]
      have h4 := h3.1
      rw [Bool.and_eq_false_iff] at h4
      rcases h4 with h4 | h4
      · simpa using h4
      · rw [Bool.or_eq_false_iff] at h4
        have h5 : (j : Int) = ((ks.length - 2 : Nat) : Int) := by simpa using h4.2
        omega
    rw [exS_name, exS_name]
    have v1 : varOp y'.op = true := by rw [hop]; decide
    have v2 : varOp ks[i].op = true := by rw [eq_of_beq h55]; decide
    unfold exN
    rw [v1, v2]
    simp only [if_true]
    refine neB fun e => ?_
    have := swB_inj e
    rw [this, eqB.2 rfl] at h2; cases h2
theorem exS_st {n : NodeA} {d fd fl : Bool} (h : stC n d fd fl = true) : stC (exS x y n) d fd fl = true := by
  unfold stC at h ⊢
  rw [exS_op, exS_kids, List.length_map]
  split
  · next h1 => rw [if_pos h1] at h; exact h
  · next h1 =>
    rw [if_neg h1] at h
    split
    · next h2 =>
      rw [if_pos h2, Bool.and_eq_true] at h
      rw [Bool.and_eq_true]
      have := exS_flow (x := x) (y := y) h.2
      rw [List.length_map] at this
      exact ⟨h.1, this⟩
    · next h2 =>
      rw [if_neg h2] at h
      have e : ((n.kids.map (exS x y))[0]?).all diffS = (n.kids[0]?).all diffS := by
        rw [List.getElem?_map]
        cases n.kids[0]? with
        | none => rfl
        | some k => simp only [Option.map_some, Option.all_some, exS_diff]
      rw [e]; exact h
theorem exS_ok (hx : nameB x = true) (hy : nameB y = true) : ∀ n d fd fl, okS n d fd fl = true → okS (exS x y n) d fd fl = true := by
  refine NodeA.ind fun n ih => ?_
  intro d fd fl h
  rw [okS_eq] at h ⊢
  simp only [Bool.and_eq_true] at h ⊢
  obtain ⟨h1, h2, h3, h4, h5, h6⟩ := h
  refine ⟨by rw [exS_num_ok]; exact h1, exS_nameC hx hy h2, exS_st h3, ?_, ?_, by rw [exS_last]; exact h6⟩
  · rw [exS_sorts, exS_kids, List.map_map]
    have : n.kids.map ((fun x => sortS x.op) ∘ exS x y) = n.kids.map fun x => sortS x.op := List.map_congr_left fun k hk => by simp only [Function.comp, exS_op]
    rw [this]; exact h4
  · rw [exS_kids, exS_op, List.all_map, List.all_eq_true]
    intro k hk
    exact ih k hk _ _ _ (List.all_eq_true.1 h5 k hk)
theorem exS_root {n : NodeA} (hx : nameB x = true) (hy : nameB y = true) (h : rootS n = 0) : rootS (exS x y n) = 0 := by
  have hok := (rootS_ok h).1
  have hok' := exS_ok hx hy n _ _ _ hok
  unfold rootS checkS at h ⊢
  rw [exS_op, exS_size, exS_lev]
  rw [hok] at h
  rw [hok']
  exact h
/-! ### Symbols -/
def occB (o : Int) : NodeA → Bool
  | .mk op _ _ ks => op == o || ks.attach.any fun ⟨k, _⟩ => occB o k
termination_by n => SizeOf.sizeOf n
decreasing_by exact NodeA.size_kid (by assumption)
theorem occB_eq {o : Int} (n : NodeA) : occB o n = (n.op == o || n.kids.any (occB o)) := by
  cases n with | mk op m r ks => rw [occB]; simp [NodeA.op, NodeA.kids]
end
theorem scan_any {α : Type} {l : List α} {q : α → Bool} {K : Nat} (hl : l.length < K) (hb : l.length ≤ big) {f : (Int → Option (Out Unit Bool)) → Int → Option (Out Unit Bool)}
    (h1 : ∀ g (i : Nat) x, l[i]? = some x → f g i = if q x then some (.out true) else g (IntKind.wrap .i64 ((i : Int) + 1))) (h2 : ∀ g (i : Nat), l.length ≤ i → f g i = some (.go ())) : iter K f 0 = some (if l.any q then .out true else .go ()) := by
  unfold big at hb
  rw [scan l (fun x => !q x) true (by omega) (fun g i x hx => by rw [h1 g i x hx]; cases q x <;> rfl) h2 hl]
  have : l.all (fun x => !q x) = !l.any q := by rw [Bool.eq_iff_iff]; simp
  rw [this]
  cases l.any q <;> rfl
theorem lt_tn {i n : Nat} (h : i < n) : decide ((i : Int) < (n : Int)) = true := decide_eq_true (by omega)
theorem lt_fn {i n : Nat} (h : n ≤ i) : decide ((i : Int) < (n : Int)) = false := decide_eq_false (by omega)
theorem uses_iter {K : Nat} {l : List Int} (hl : l.length < K) (hlb : l.length ≤ big) : ∀ (n : NodeA) (j : Nat), n.size ≤ j → n.size ≤ K → n.size ≤ big → iter j (fun self q => static_Uses_body K self q.1 q.2) (n, l) = some (l.any fun o => occB o n) := by
  refine NodeA.ind fun n ih => ?_
  intro j hj hK hb
  have hp := n.size_pos
  have hkl := n.kids_lt
  obtain ⟨j, rfl⟩ : ∃ i, j = i + 1 := ⟨j - 1, by omega⟩
  rw [iter_succ]
  have ih' : ∀ k ∈ n.kids, iter j (fun self q => static_Uses_body K self q.1 q.2) (k, l) = some (l.any fun o => occB o k) := fun k hk => ih k hk j (by have := NodeA.size_lt hk; omega) (by have := NodeA.size_lt hk; omega) (by have := NodeA.size_lt hk; omega)
  have hsplit : (l.any fun o => occB o n) = ((l.any fun o => n.op == o) || n.kids.any fun k => l.any fun o => occB o k) := by
    rw [Bool.eq_iff_iff]
    simp only [Bool.or_eq_true, List.any_eq_true]
    constructor
    · rintro ⟨o, ho, h⟩
      rw [occB_eq, Bool.or_eq_true, List.any_eq_true] at h
      rcases h with h | ⟨k, hk, h⟩
      · exact .inl ⟨o, ho, h⟩
      · exact .inr ⟨k, hk, o, ho, h⟩
    · rintro (⟨o, ho, h⟩ | ⟨k, hk, o, ho, h⟩)
      · exact ⟨o, ho, by rw [occB_eq, h]; rfl⟩
      · exact ⟨o, ho, by rw [occB_eq, Bool.or_eq_true, List.any_eq_true]; exact .inr ⟨k, hk, h⟩⟩
  rw [hsplit]
  generalize iter j (fun self q => static_Uses_body K self q.1 q.2) = S at ih' ⊢
  unfold static_Uses_body
  simp only
  refine ob _ (scan_any (l := l) (q := fun o => n.op == o) hl hlb (fun g i x hx => ?_) fun g i hi => ?_) ?_
  · obtain ⟨hlt, rfl⟩ := List.getElem?_eq_some_iff.1 hx
    simp only [lt_tn hlt, if_true, idx_nat, hx, Option.bind_some, outM_eq]
  · simp only [lt_fn hi, Bool.false_eq_true, if_false]
  · cases h : l.any fun o => n.op == o with
    | true => rfl
    | false =>
      simp only [Bool.false_eq_true, if_false, Out.fin_go, Bool.false_or]
      refine ob _ (scan_any (l := n.kids) (q := fun k => l.any fun o => occB o k) (by omega) (by omega) (fun g i x hx => ?_) fun g i hi => ?_) ?_
      · obtain ⟨hlt, rfl⟩ := List.getElem?_eq_some_iff.1 hx
        simp only [lt_tn hlt, if_true, idx_nat, hx, Option.bind_some, ih' _ (List.getElem_mem hlt), outM_eq]
      · simp only [lt_fn hi, Bool.false_eq_true, if_false]
      · cases n.kids.any fun k => l.any fun o => occB o k <;> rfl
def renB (n : NodeA) : Bool := !(occB 11 n || (occB 38 n || (occB 61 n || (occB 62 n || occB 56 n))))
theorem rename_renamable_eq {K : Nat} {n : NodeA} (hK : n.size ≤ K) (h12 : 12 < K) (hb : n.size ≤ big) : rename_renamable K n = some (renB n) := by
  have hu : static_Uses K n [11, 38, 61, 62, 56] = some (!renB n) := by
    have := uses_iter (K := K) (l := [11, 38, 61, 62, 56]) (by simp; omega) (by show 5 ≤ 1099511627776; omega) n K hK hK hb
    refine this.trans ?_
    unfold renB
    simp only [List.any_cons, List.any_nil, Bool.or_false, Bool.not_not]
  unfold rename_renamable
  rw [hu]; simp
end Go.Proofs.YtngmfimpaembnaaGreatDoor
