/- Part of the proof of a law: contracts of the functions that the law reaches, or plain laws of them, out of the abstract layer (the texts YtngmfimpaembnaaGreatDoorIso..). No condition. -/
import Derived.Test.YtngmfimpaembnaaGreatDoorIsoS
import Derived.Test.YtngmfimpaembnaaGreatDoorRows
import Derived.Test.YtngmfimpaembnaaGreatDoorW
import Derived.Lib.SmallJoins
import Derived.Deep.Strs
import Derived.Test.YtngmfimpaembnaaGreatDoorPb
import Derived.KernelRfl
namespace Go.Proofs.YtngmfimpaembnaaGreatDoor
open Go Go.Iso Go.Proofs Go.RowKit Go.ChangeShapes Go.WideShapes Go.ChangeAt
set_option linter.unusedVariables false
set_option linter.unusedSimpArgs false
set_option maxRecDepth 100000
/-! ### Trees as they are read -/
theorem u32_wf {z : Int} (h : (Lit.int .u32 z).wf = true) : 0 ≤ z ∧ z < 4294967296 := by
  simp [Lit.wf, IntKind.min, IntKind.max, IntKind.signed, IntKind.bits] at h; omega
theorem words_rep {H : Type} {enc : TypeId × Value → H} {W : World} {fuel : Nat} {cs : List Value} {x : DataW H × List MemPlace} (h : DataW.trod enc Tryz.prog W 0 (fun _ => true) true fuel 22 cs = some x) :
    ∃ (l : List Int) (c : Value), cs = [c] ∧ RepD (there W) W (slD u32V l) c ∧ ∀ z ∈ l, 0 ≤ z ∧ z < 4294967296 := by
  obtain ⟨l, c, h1, h2, h3⟩ := slice_rep u32V (s := 1) Tryz.underlying22 (by kernel_rfl) (by omega) (fun _ => rfl) (fun z _ => 0 ≤ z ∧ z < 4294967296) (fun n cs' y _ hy => by
    obtain ⟨z, h1, h2⟩ := int_cell Tryz.underlying99 hy
    exact ⟨z, h1, u32_wf h2⟩) h
  refine ⟨l, c, h1, h2, fun z hz => ?_⟩
  rcases h3 with ⟨_, rfl⟩ | ⟨ys, rest, _, hl, hq⟩
  · cases hz
  · obtain ⟨i, hi, rfl⟩ := List.mem_iff_getElem.1 hz
    exact hq i hi (by omega)
theorem rat_rep {H : Type} {enc : TypeId × Value → H} {W : World} {fuel : Nat} {cs : List Value} {x : DataW H × List MemPlace} (h : DataW.trod enc Tryz.prog W 0 (fun _ => true) true fuel 24 cs = some x) :
    ∃ r : RatA, RowRep W r.enc cs ∧ r.words := by
  obtain ⟨y0, y1, y2, n, rfl, hl, h0, h1, h2⟩ := Go.Deep.trod_struct3 Tryz.underlying24 h
  have hc : Tryz.prog.cellsOf 24 = 3 := by kernel_rfl
  have hc4 : Tryz.prog.cellsOf 4 = 1 := by kernel_rfl
  have hc36 : Tryz.prog.cellsOf 22 = 1 := by kernel_rfl
  rw [hc] at hl
  match cs, hl with
  | [u, v, w], _ =>
    simp only [hc4, hc36, List.drop_zero, List.take_succ_cons, List.take_zero, List.drop_succ_cons] at h0 h1 h2
    obtain ⟨b, e0, _⟩ := DataW.trod_bool Tryz.underlying4 h0
    obtain ⟨l1, c1, e1, r1, w1⟩ := words_rep h1
    obtain ⟨l2, c2, e2, r2, w2⟩ := words_rep h2
    cases e0; cases e1; cases e2
    refine ⟨⟨b, l1, l2⟩, ⟨rfl, fun j hj => ?_⟩, w1, w2⟩
    match j, hj with
    | 0, _ => exact .val _ rfl
    | 1, _ => exact r1
    | 2, _ => exact r2
theorem bulk_slice {H : Type} {ys rest : List (DataW H)} : Rows.uptoBulk (.slice ys rest) = Rows.uptoBulkAll ys + Rows.uptoBulkAll rest + 1 := by rw [Rows.uptoBulk]
theorem bulk_ge {H : Type} : ∀ {l : List NodeA} {ys : List (DataW H)}, l.length = ys.length → (∀ i (h1 : i < l.length) (h2 : i < ys.length), l[i].size ≤ Rows.uptoBulk ys[i]) → (l.map NodeA.size).sum ≤ Rows.uptoBulkAll ys
  | [], _, _, _ => by simp
  | x :: l, [], h, _ => by simp at h
  | x :: l, y :: ys, h, hq => by
    have h0 := hq 0 (by simp) (by simp)
    have := bulk_ge (l := l) (ys := ys) (by simpa using h) fun i h1 h2 => by
      have := hq (i + 1) (by simpa using h1) (by simpa using h2); simpa using this
    rw [Rows.uptoBulkAll, List.map_cons, List.sum_cons]
    simp at h0; omega
theorem node_row {H : Type} {enc : TypeId × Value → H} {W : World} : ∀ (fuel : Nat) (cs : List Value) (x : DataW H × List MemPlace), DataW.trod enc Tryz.prog W 0 (fun _ => true) true fuel 27 cs = some x →
    ∃ n : NodeA, RowRep W n.enc cs ∧ n.words ∧ n.size ≤ Rows.uptoBulk x.1 := by
  intro fuel
  induction fuel using Nat.strongRecOn with
  | _ fuel ih =>
    intro cs x h
    obtain ⟨xs, n, hfu, rfl, hl, hlen, hfs⟩ := DataW.trod_struct Tryz.underlying27 h
    have hc : Tryz.prog.cellsOf 27 = 6 := by kernel_rfl
    have hc1 : Tryz.prog.cellsOf 3 = 1 := by kernel_rfl
    have hc2 : Tryz.prog.cellsOf 9 = 1 := by kernel_rfl
    have hc3 : Tryz.prog.cellsOf 24 = 3 := by kernel_rfl
    have hc4 : Tryz.prog.cellsOf 25 = 1 := by kernel_rfl
    rw [hc] at hl
    match xs, hlen with
    | [y0, y1, y2, y3], _ =>
    match cs, hl with
    | [u0, u1, u2, u3, u4, u5], _ =>
      have h0 := hfs 0 _ rfl
      have h1 := hfs 1 _ rfl
      have h2 := hfs 2 _ rfl
      have h3 := hfs 3 _ rfl
      simp only [hc1, hc2, hc3, hc4, List.drop_zero, List.take_succ_cons, List.take_zero, List.drop_succ_cons, List.getElem?_cons_zero, List.getElem?_cons_succ] at h0 h1 h2 h3
      obtain ⟨z, e0, _, _⟩ := DataW.trod_int Tryz.underlying3 h0
      obtain ⟨s, e1, _, hs⟩ := DataW.trod_string Tryz.underlying9 h1
      obtain ⟨r, r2, w2⟩ := rat_rep h2
      obtain ⟨l, c, e3, r3, q3⟩ := slice_rep NodeA.enc (s := 6) Tryz.underlying25 (by kernel_rfl) (by omega) NodeA.enc_len (fun k y => k.words ∧ k.size ≤ Rows.uptoBulk y) (fun m cs' y hm hy => ih m (by omega) cs' y hy) h3
      cases e0; cases e1; cases e3
      refine ⟨.mk z s r l, ⟨by rw [NodeA.enc_mk]; rfl, fun j hj => ?_⟩, ?_, ?_⟩
      · have hr := r2.2
        have e : (NodeA.mk z s r l).enc = [.val (.int .i64 z), .val (.string s), .val (.bool r.neg), slD u32V r.num, slD u32V r.den, slD NodeA.enc l] := NodeA.enc_mk
        have hj6 : j < 6 := by rw [e] at hj; exact hj
        have key : ∀ (ds : List D), ds = (NodeA.mk z s r l).enc → ∀ hj : j < ds.length, RepD (there W) W ds[j] ([Value.int .i64 z, .string s, u2, u3, u4, u5].getD j undef) := by
          intro ds hd hj
          rw [e] at hd; subst hd
          match j, hj6 with
          | 0, _ => exact .val _ rfl
          | 1, _ => exact .val _ (by rw [maxLen_eq] at hs; simpa [okVal] using hs)
          | 2, _ => exact hr 0 (by simp [RatA.enc])
          | 3, _ => exact hr 1 (by simp [RatA.enc])
          | 4, _ => exact hr 2 (by simp [RatA.enc])
          | 5, _ => exact r3
        exact key _ rfl hj
      · rw [NodeA.words_mk]
        refine ⟨w2, fun k hk => ?_⟩
        rcases q3 with ⟨_, rfl⟩ | ⟨ys, rest, _, hl3, hq⟩
        · cases hk
        · obtain ⟨i, hi, rfl⟩ := List.mem_iff_getElem.1 hk
          exact (hq i hi (by omega)).1
      · rw [NodeA.size_mk]
        simp only [List.map_cons, List.map_nil]
        rw [Rows.uptoBulk]
        simp only [Rows.uptoBulkAll]
        rcases q3 with ⟨_, rfl⟩ | ⟨ys, rest, e4, hl3, hq⟩
        · simp
        · have := bulk_ge hl3 fun i h1 h2 => (hq i h1 h2).2
          rw [e4, bulk_slice]; omega
theorem node_rep {H : Type} {enc : TypeId × Value → H} {W : World} {base : Nat} {v : Value} {d : DataW H} {ps : List MemPlace} (hval : Value.okWide Tryz.prog W .any base 27 v) (h : DataW.Trod enc Tryz.prog W 0 (fun _ => true) true 27 v d ps) :
    ∃ n : NodeA, RepV (fun _ => none) (there W) W (aggV n.enc) v ∧ n.words ∧ n.size ≤ Rows.uptoBulk d := by
  obtain ⟨cs, rfl, hs⟩ := okWide_struct Tryz.underlying27 hval
  obtain ⟨fuel, hf⟩ := h
  obtain ⟨n, h1, h2, h3⟩ := node_row fuel _ _ hf
  obtain ⟨cs⟩ := cs
  refine ⟨n, .agg (by have := h1.1; simp only [Value.cells] at this; simp [this]) fun i hi => ?_, h2, h3⟩
  have := h1.2 i (by simpa using hi)
  simp only [Value.cells] at this
  rw [List.getElem_map]
  refine .d ?_
  simpa [Array.getD_eq_getD_getElem?, List.getD_eq_getElem?_getD] using this
theorem ints_rep {H : Type} {enc : TypeId × Value → H} {W : World} {base : Nat} {v : Value} {d : DataW H} {ps : List MemPlace} (hval : Value.okWide Tryz.prog W .any base 28 v) (h : DataW.Trod enc Tryz.prog W 0 (fun _ => true) true 28 v d ps) :
    ∃ l : List Int, RepD (there W) W (slD i64V l) v := by
  obtain ⟨a, len, cap, rfl⟩ := okWide_slice Tryz.underlying28 hval
  obtain ⟨fuel, hf⟩ := h
  obtain ⟨l, c, h1, h2, _⟩ := slice_rep i64V (s := 1) Tryz.underlying28 (by kernel_rfl) (by omega) (fun _ => rfl) (fun _ _ => True) (fun n cs' y _ hy => by
    obtain ⟨z, h1, _⟩ := int_cell Tryz.underlying3 hy
    exact ⟨z, h1, trivial⟩) hf
  simp only [Value.cells, List.cons.injEq, and_true] at h1
  subst h1
  exact ⟨l, h2⟩
end Go.Proofs.YtngmfimpaembnaaGreatDoor
namespace Go.Proofs.YtngmfimpaembnaaGreatDoor
open Go Go.Iso Go.Proofs
set_option linter.unusedSimpArgs false
set_option linter.unusedVariables false
set_option maxRecDepth 100000
/-! ### Operators -/
def sortS (p0 : Int) : Int :=
  if (decide (1 ≤ p0) && decide (p0 ≤ 13)) then 1 else if (decide (20 ≤ p0) && decide (p0 ≤ 39)) then 2 else if (p0 == 55 || p0 == 56) then 4 else if (decide (50 ≤ p0) && decide (p0 ≤ 62)) then 3 else 0
theorem tree_Sort_eq {K : Nat} {op : Int} : tree_Sort K op = some (sortS op) := by
  unfold tree_Sort sortS; simp only [andO, orO, Option.bind_some, ifOI]
theorem r08_Sort_eq {K : Nat} {op : Int} : r08_Sort K op = some (sortS op) := by
  unfold r08_Sort sortS; simp only [andO, orO, Option.bind_some, ifOI]
theorem sort_range {op : Int} (h : sortS op ≠ 0) : ∃ k : Nat, k < 63 ∧ op = k := by
  refine ⟨op.toNat, ?_, ?_⟩ <;>
  · have : 1 ≤ op ∧ op ≤ 62 := by
      apply Classical.byContradiction
      intro hc
      apply h
      unfold sortS
      have e1 : (decide (1 ≤ op) && decide (op ≤ 13)) = false := by simp; omega
      have e2 : (decide (20 ≤ op) && decide (op ≤ 39)) = false := by simp; omega
      have e3 : (op == 55 || op == 56) = false := by simp; omega
      have e4 : (decide (50 ≤ op) && decide (op ≤ 62)) = false := by simp; omega
      rw [e1, e2, e3, e4]; rfl
    omega
def namedS (op : Int) : Bool := (tree_shape 0 op).all (·.1)
def sortsS (op : Int) : Option (List Int) := (tree_shape 0 op).bind (·.2)
theorem tree_shape_eq {K : Nat} {op : Int} : tree_shape K op = some (namedS op, sortsS op) := by
  have e : ∃ r, tree_shape 0 op = some r := by
    unfold tree_shape; simp only [andO, orO, orO', Option.bind_some, ifOP, ifOO, outM_eq, finIf, finIf', Out.fin_go, Out.fin_out]
    repeat' (first | exact ⟨_, rfl⟩ | split)
  obtain ⟨r, h⟩ := e
  have e2 : tree_shape K op = tree_shape 0 op := rfl
  unfold namedS sortsS
  rw [e2, h]; rfl
def namB (op : Int) : Bool := (r08_named 0 op).all id
def kidB (op : Int) : ByteArray := (r08_kids 0 op).getD ⟨#[]⟩
theorem r08_named_eq {K : Nat} {op : Int} : r08_named K op = some (namB op) := by
  have e : ∃ r, r08_named 0 op = some r := by
    unfold r08_named; simp only [andO, orO, orO', Option.bind_some]
    repeat' (first | exact ⟨_, rfl⟩ | split)
  obtain ⟨r, h⟩ := e
  have e2 : r08_named K op = r08_named 0 op := rfl
  unfold namB
  rw [e2, h]; rfl
theorem r08_kids_eq {K : Nat} {op : Int} : r08_kids K op = some (kidB op) := by
  have e : ∃ r, r08_kids 0 op = some r := by
    unfold r08_kids; simp only [andO, orO, orO', Option.bind_some, ifOS]
    repeat' (first | exact ⟨_, rfl⟩ | split)
  obtain ⟨r, h⟩ := e
  have e2 : r08_kids K op = r08_kids 0 op := rfl
  unfold kidB
  rw [e2, h]; rfl
def tabB (k : Int) : Bool := sortS k == 0 || (namB k == (namedS k || (k == 10 || k == 37)) && ((kidB k).toList.map (fun c => (c.toNat : Int) - 48) == (sortsS k).getD []) && ((kidB k).toList.all fun c => decide (48 ≤ c.toNat) && decide (c.toNat ≤ 57)) &&
  (!(k == 10 || k == 37 || k == 54) || sortsS k == none && !namedS k) && (!(k == 39) || sortsS k == some [2]) && (!(k == 8 || k == 9) || sortsS k == some [1, 1]) && (!(k == 12) || sortsS k == some [1]) && ((sortsS k).getD []).all (fun s => s != 0))
theorem tab_all : ((List.range 63).all fun k => tabB (k : Int)) = true := by decide +kernel
theorem tab {op : Int} (h : sortS op ≠ 0) : namB op = (namedS op || (op == 10 || op == 37)) ∧ (kidB op).toList.map (fun c => (c.toNat : Int) - 48) = (sortsS op).getD [] ∧ (∀ c ∈ (kidB op).toList, 48 ≤ c.toNat ∧ c.toNat ≤ 57) ∧
    ((op == 10 || op == 37 || op == 54) = true → sortsS op = none ∧ namedS op = false) ∧ (op = 39 → sortsS op = some [2]) ∧ ((op == 8 || op == 9) = true → sortsS op = some [1, 1]) ∧ (op = 12 → sortsS op = some [1]) ∧ (∀ s ∈ (sortsS op).getD [], s ≠ 0) := by
  obtain ⟨k, hk, rfl⟩ := sort_range h
  have := List.all_eq_true.1 tab_all k (List.mem_range.2 hk)
  generalize (k : Int) = op at *
  unfold tabB at this
  have h0 : (sortS op == 0) = false := beq_eq_false_iff_ne.2 h
  rw [h0, Bool.false_or] at this
  simp only [Bool.and_eq_true] at this
  obtain ⟨⟨⟨⟨⟨⟨⟨h1, h2⟩, h3⟩, h4⟩, h5⟩, h6⟩, h7⟩, h8⟩ := this
  refine ⟨eq_of_beq h1, eq_of_beq h2, fun c hc => ?_, fun ho => ?_, fun ho => ?_, fun ho => ?_, fun ho => ?_, fun s hs => ?_⟩
  · have := List.all_eq_true.1 h3 c hc
    simpa using this
  · rw [ho] at h4
    simp only [Bool.not_true, Bool.false_or, Bool.and_eq_true, Bool.not_eq_true'] at h4
    exact ⟨eq_of_beq h4.1, h4.2⟩
  · have : (op == 39) = true := by simp [ho]
    rw [this] at h5; simpa using h5
  · rw [ho] at h6; simpa using h6
  · have : (op == 12) = true := by simp [ho]
    rw [this] at h7; simpa using h7
  · have := List.all_eq_true.1 h8 s hs
    simpa using this
/-! ### Names -/
def letB (z : Int) : Bool := decide (97 ≤ z) && decide (z ≤ 122) || decide (65 ≤ z) && decide (z ≤ 90)
theorem tree_letter_eq {K : Nat} {z : Int} : tree_letter K z = some (letB z) := by
  unfold tree_letter letB
  cases decide (97 ≤ z) <;> cases decide (z ≤ 122) <;> cases decide (65 ≤ z) <;> rfl
theorem r08_letter_eq {K : Nat} {z : Int} : r08_letter K z = some (letB z) := by
  unfold r08_letter letB
  cases decide (97 ≤ z) <;> cases decide (z ≤ 122) <;> cases decide (65 ≤ z) <;> rfl
def digB (z : Int) : Bool := !(decide (z < 48) || decide (57 < z))
abbrev kw (s : ByteArray) : Bool := (s.toList == (⟨#[116, 114, 117, 101]⟩ : ByteArray).toList || (s.toList == (⟨#[102, 97, 108, 115, 101]⟩ : ByteArray).toList || (s.toList == (⟨#[102, 111, 114, 97, 108, 108]⟩ : ByteArray).toList || s.toList == (⟨#[101, 120, 105, 115, 116, 115]⟩ : ByteArray).toList)))
def nameB (s : ByteArray) : Bool :=
  !(((s.size : Int) == 0) || (decide (12 < (s.size : Int)) || kw s)) && (List.range s.size).all fun i => (s[i]?).all fun c => letB c.toNat || !((i : Int) == 0) && digB c.toNat
theorem strAt_get {s : ByteArray} {i : Nat} (h : i < s.size) : strAt s (i : Int) = some s[i] ∧ s[i]? = some s[i] := by
  rw [strAt_nat]; exact ⟨getElem?_pos s i h, getElem?_pos s i h⟩
theorem r08_Name_eq {K : Nat} {s : ByteArray} (hK : 12 < K) : r08_Name K s = some (nameB s) := by
  unfold r08_Name
  simp only [orO, Option.bind_some, outM_eq, finIf, ifOO]
  unfold nameB
  cases hb : (((s.size : Int) == 0) || (decide (12 < (s.size : Int)) || kw s)) with
  | true => simp only [if_true, Bool.not_true, Bool.false_and]
  | false =>
    have hs : s.size ≤ 12 := by
      have : decide (12 < (s.size : Int)) = false := by revert hb; cases decide (12 < (s.size : Int)) <;> cases ((s.size : Int) == 0) <;> simp
      simp at this; omega
    simp only [Bool.false_eq_true, if_false, Bool.not_false, Bool.true_and]
    refine ob _ (scanG s.size (fun i => (i : Int)) (fun i => (s[i]?).all fun c => letB c.toNat || !((i : Int) == 0) && digB c.toNat) false () (fun g i hi => ?_) (fun g => ?_) (by omega) rfl) ?_
    · obtain ⟨h1, h2⟩ := strAt_get hi
      have hd : decide ((i : Int) < (s.size : Int)) = true := by simp; omega
      simp only [hd, if_true, h1, h2, Option.bind_some, r08_letter_eq, Option.all_some]
      simp only [orO, orO', andO, Option.bind_some, outM_eq]
      rw [w64s (by omega)]
      unfold digB
      cases letB (s[i].toNat : Int) <;> cases ((i : Int) == 0) <;> cases decide ((s[i].toNat : Int) < 48) <;> cases decide (57 < (s[i].toNat : Int)) <;> rfl
    · have hd : decide ((s.size : Int) < (s.size : Int)) = false := by simp
      simp only [hd, Bool.false_eq_true, if_false]
    · cases (List.range s.size).all fun i => (s[i]?).all fun c => letB c.toNat || !((i : Int) == 0) && digB c.toNat <;> rfl
theorem tree_Name_eq {K : Nat} {s : ByteArray} (hK : 12 < K) : tree_Name K s = some (nameB s) := by
  unfold tree_Name
  have hkw : ∀ {x y : Option Bool}, (if (s.toList == (⟨#[116, 114, 117, 101]⟩ : ByteArray).toList) = true then x else y) = (if (s.toList == (⟨#[116, 114, 117, 101]⟩ : ByteArray).toList) = true then x else y) := rfl
  simp only [tree_letter_eq, Option.bind_some, orO']
  unfold nameB
  by_cases h0 : s.size = 0
  · have e : ((s.size : Int) == 0) = true := by simp [h0]
    simp only [e, if_true, Option.bind_some, outM_eq, Out.fin_out, Bool.true_or, Bool.not_true, Bool.false_and]
  have e0 : ((s.size : Int) == 0) = false := int_ne0 h0
  by_cases h1 : 12 < s.size
  · have e : decide (12 < (s.size : Int)) = true := by simp; omega
    simp only [e0, e, if_true, Bool.false_eq_true, if_false, Option.bind_some, outM_eq, Out.fin_out, Bool.true_or, Bool.or_true, Bool.not_true, Bool.false_and]
  have e1 : decide (12 < (s.size : Int)) = false := by simp; omega
  obtain ⟨g1, g2⟩ := strAt_get (s := s) (i := 0) (by omega)
  have g1' : strAt s 0 = some s[0] := g1
  simp only [e0, e1, Bool.false_eq_true, if_false, g1', Option.bind_some, Bool.false_or]
  cases hl : letB (s[0].toNat : Int) with
  | false =>
    simp only [Bool.not_false, if_true, outM_eq, Option.bind_some, Out.fin_out]
    have : ((List.range s.size).all fun i => (s[i]?).all fun c => letB c.toNat || !((i : Int) == 0) && digB c.toNat) = false := by
      rw [List.all_eq_false]
      refine ⟨0, List.mem_range.2 (by omega), ?_⟩
      rw [g2, Option.all_some, hl]; simp
    rw [this, Bool.and_false]
  | true =>
    simp only [Bool.not_true, Bool.false_eq_true, if_false, Option.bind_some, Out.fin_go]
    refine ob _ (scanG s.size (fun i => (i : Int)) (fun i => (s[i]?).all fun c => letB c.toNat || digB c.toNat) false () (fun g i hi => ?_) (fun g => ?_) (by omega) rfl) ?_
    · obtain ⟨h1, h2⟩ := strAt_get hi
      have hd : decide ((i : Int) < (s.size : Int)) = true := by simp; omega
      simp only [hd, if_true, h1, h2, Option.bind_some, Option.all_some]
      rw [w64s (by omega)]
      unfold digB
      cases letB (s[i].toNat : Int) <;> cases decide ((s[i].toNat : Int) < 48) <;> cases decide (57 < (s[i].toNat : Int)) <;> rfl
    · have hd : decide ((s.size : Int) < (s.size : Int)) = false := by simp
      simp only [hd, Bool.false_eq_true, if_false]
    · have e2 : ((List.range s.size).all fun i => (s[i]?).all fun c => letB c.toNat || digB c.toNat) = (List.range s.size).all fun i => (s[i]?).all fun c => letB c.toNat || !((i : Int) == 0) && digB c.toNat := by
        rw [Bool.eq_iff_iff, List.all_eq_true, List.all_eq_true]
        refine forall_congr' fun i => forall_congr' fun hi => ?_
        obtain ⟨_, h2⟩ := strAt_get (List.mem_range.1 hi)
        rw [h2, Option.all_some, Option.all_some]
        by_cases hi0 : i = 0
        · subst hi0; rw [hl]; simp
        · have : ((i : Int) == 0) = false := by simp; omega
          rw [this]; simp
      rw [e2]
      cases (List.range s.size).all fun i => (s[i]?).all fun c => letB c.toNat || !((i : Int) == 0) && digB c.toNat with
      | false => simp [Out.fin]
      | true => 
        simp only [if_true, Out.fin_go, orO, Option.bind_some, Bool.and_true, e0, e1, Bool.false_or]
        unfold kw
        generalize (s.toList == _ || (s.toList == _ || (s.toList == _ || s.toList == _))) = q
        cases q <;> rfl
/-! ### Numbers -/
def natS (r : RatA) : Bool := !r.neg && r.den == [1] && decide (r.num.length ≤ 20) && (r.num.getLast?).all (· != 0)
theorem last_idx {l : List Int} (h : l.length ≠ 0) (hl : l.length ≤ 9223372036854775807) : idx l (IntKind.wrap .i64 ((l.length : Int) - 1)) = l.getLast? := by
  have e : IntKind.wrap .i64 ((l.length : Int) - 1) = ((l.length - 1 : Nat) : Int) := by rw [w64 (by omega) (by omega)]; omega
  rw [e, idx_nat, List.getLast?_eq_getElem?]
theorem num_valid_eq {K : Nat} {l : List Int} {m : Int} (hm : m ≤ 10000) : num_valid K l m = some (decide ((l.length : Int) ≤ m) && (l.getLast?).all (· != 0)) := by
  unfold num_valid
  by_cases h : (l.length : Int) ≤ m
  · rw [decide_eq_true h, if_pos rfl]
    by_cases h0 : l.length = 0
    · have : l = [] := List.eq_nil_of_length_eq_zero h0
      subst this; rfl
    · have e : ((l.length : Int) == 0) = false := int_ne0 h0
      rw [e, last_idx h0 (by omega)]
      cases hx : l.getLast? with
      | none => simp at hx; subst hx; simp at h0
      | some x => simp
  · rw [decide_eq_false h]; simp
theorem num_Valid_eq {K : Nat} {r : RatA} (hd : r.den = [1]) (hn : r.neg = false) : num_Valid K r 4096 = some (decide ((r.num.length : Int) ≤ 4096) && (r.num.getLast?).all (· != 0)) := by
  unfold num_Valid
  have i0 : idx ([1] : List Int) 0 = some 1 := rfl
  simp only [num_valid_eq (show (4096 : Int) ≤ 10000 by omega), hd, hn, i0, Option.bind_some]
  generalize (decide ((r.num.length : Int) ≤ 4096) && (r.num.getLast?).all (· != 0)) = b
  cases b with
  | false => simp [outM, Out.fin]
  | true => cases hq : ((r.num.length : Int) == 0) <;> simp [outM, Out.fin]
theorem tree_natural_eq {K : Nat} {r : RatA} : tree_natural K r = some (natS r) := by
  unfold tree_natural natS
  cases hn : r.neg with
  | true => simp
  | false =>
    simp only [Bool.not_false, if_true, Bool.true_and]
    by_cases hd : r.den.length = 1
    · obtain ⟨d, hd⟩ := List.length_eq_one_iff.1 hd
      have i0 : idx ([d] : List Int) 0 = some d := rfl
      simp only [hd, i0, Option.bind_some, List.length_singleton]
      by_cases h1 : d = 1
      · subst h1
        have e : rat_Valid K r = some (decide ((r.num.length : Int) ≤ 4096) && (r.num.getLast?).all (· != 0)) := by
          unfold rat_Valid; rw [num_Valid_eq hd hn]; rfl
        by_cases h2 : r.num.length ≤ 20
        · have e2 : decide ((r.num.length : Int) ≤ 20) = true := by simp; omega
          have e3 : decide ((r.num.length : Int) ≤ 4096) = true := by simp; omega
          simp [e, e2, e3, h2]
        · have e2 : decide ((r.num.length : Int) ≤ 20) = false := by simp; omega
          simp [e2, h2]
      · simp [h1]
    · have e : ((r.den.length : Int) == 1) = false := by simp; omega
      have : (r.den == [1]) = false := by
        rw [beq_eq_false_iff_ne]; rintro h; rw [h] at hd; exact hd rfl
      rw [e, this]; simp
theorem r08_natural_eq {K : Nat} {r : RatA} : r08_natural K r = some (natS r) := by
  unfold r08_natural natS
  cases hn : r.neg with
  | true => simp [outM, Out.fin]
  | false =>
    simp only [Bool.not_false, Bool.false_eq_true, if_false, Bool.true_and]
    by_cases hd : r.den.length = 1
    · obtain ⟨d, hd⟩ := List.length_eq_one_iff.1 hd
      have i0 : idx ([d] : List Int) 0 = some d := rfl
      simp only [hd, i0, Option.bind_some, List.length_singleton]
      by_cases h1 : d = 1
      · subst h1
        by_cases h2 : r.num.length ≤ 20
        · have e2 : decide ((20 : Int) < (r.num.length : Int)) = false := by simp; omega
          by_cases h0 : r.num.length = 0
          · have : r.num = [] := List.eq_nil_of_length_eq_zero h0
            simp [e2, this, Out.fin]
          · have e : ((r.num.length : Int) == 0) = false := int_ne0 h0
            cases hx : r.num.getLast? with
            | none => simp at hx; rw [hx] at h0; simp at h0
            | some x => simp [e2, e, last_idx h0 (by omega), hx, Out.fin, h2]
        · have e2 : decide ((20 : Int) < (r.num.length : Int)) = true := by simp; omega
          simp [e2, h2, outM, Out.fin]
      · simp [h1, outM, Out.fin]
    · have e : ((r.den.length : Int) != 1) = true := by simp; omega
      have : (r.den == [1]) = false := by
        rw [beq_eq_false_iff_ne]; rintro h; rw [h] at hd; exact hd rfl
      rw [e, this]; simp [outM, Out.fin]
/-! ### Well-formed trees -/
def diffS : NodeA → Bool
  | .mk op _ _ kids => (op == 20 || (op == 21 || (op == 22 || (op == 23 || (op == 24 || (op == 25 || (op == 26 || (op == 27 || (op == 37 || op == 38))))))))) || (op == 29 || op == 30) && kids.attach.all fun ⟨k, _⟩ => diffS k
termination_by n => SizeOf.sizeOf n
decreasing_by exact NodeA.size_kid (by assumption)
def primS : NodeA → Bool
  | .mk op _ _ kids => (op == 3 || (op == 12 || op == 39)) || kids.attach.any fun ⟨k, _⟩ => primS k
termination_by n => SizeOf.sizeOf n
decreasing_by exact NodeA.size_kid (by assumption)
theorem diffS_eq (n : NodeA) : diffS n = ((n.op == 20 || (n.op == 21 || (n.op == 22 || (n.op == 23 || (n.op == 24 || (n.op == 25 || (n.op == 26 || (n.op == 27 || (n.op == 37 || n.op == 38))))))))) || (n.op == 29 || n.op == 30) && n.kids.all diffS) := by
  cases n with | mk o m r ks => rw [diffS]; simp [NodeA.op, NodeA.kids]
theorem primS_eq (n : NodeA) : primS n = ((n.op == 3 || (n.op == 12 || n.op == 39)) || n.kids.any primS) := by
  cases n with | mk o m r ks => rw [primS]; simp [NodeA.op, NodeA.kids]
theorem scan_kids {R : Type} {n : NodeA} {K : Nat} (hK : n.size ≤ K) (hb : n.size ≤ 4611686018427387904) (p : NodeA → Bool) (r : R) {f : (Int → Option (Out Unit R)) → Int → Option (Out Unit R)}
    (h1 : ∀ g (i : Nat) (x : NodeA), x ∈ n.kids → n.kids[i]? = some x → f g (i : Int) = if p x then g (IntKind.wrap .i64 ((i : Int) + 1)) else some (.out r))
    (h2 : ∀ g, f g (n.kids.length : Int) = some (.go ())) : iter K f 0 = some (if n.kids.all p then .go () else .out r) := by
  have hl := n.kids_lt
  have := scanG n.kids.length (fun i => (i : Int)) (fun i => (n.kids[i]?).all p) r () (f := f) (fun g i hi => by
    have hx : n.kids[i]? = some n.kids[i] := List.getElem?_eq_getElem hi
    rw [h1 g i _ (List.getElem_mem hi) hx, hx, w64s (by omega)]; rfl) h2 (K := K) (by omega) rfl
  rw [range_all] at this
  exact this
theorem lt_t {l : List NodeA} {i : Nat} {x : NodeA} (h : l[i]? = some x) : decide ((i : Int) < (l.length : Int)) = true := by
  have := (List.getElem?_eq_some_iff.1 h).1; simp; omega
theorem lt_f {k : Nat} : decide ((k : Int) < (k : Int)) = false := by simp
theorem tree_diff_eq {K : Nat} : ∀ (k : Nat) (n : NodeA), n.size ≤ k → n.size ≤ K → n.size ≤ 4611686018427387904 → iter k (fun self q => tree_differentiable_body K self q) n = some (diffS n) := by
  intro k
  induction k with
  | zero => intro n h; have := n.size_pos; omega
  | succ k ih =>
    intro n h hK hb
    rw [iter_succ, diffS_eq]
    generalize iter k (fun self q => tree_differentiable_body K self q) = S at ih ⊢
    unfold tree_differentiable_body
    simp only [orO', Option.bind_some]
    generalize (n.op == 20 || (n.op == 21 || (n.op == 22 || (n.op == 23 || (n.op == 24 || (n.op == 25 || (n.op == 26 || (n.op == 27 || (n.op == 37 || n.op == 38))))))))) = a
    generalize (n.op == 29 || n.op == 30) = b
    cases a with
    | true => rfl
    | false =>
      cases b with
      | false => rfl
      | true =>
        simp only [Bool.false_eq_true, if_false, if_true, Bool.false_or, Bool.true_and]
        refine ob _ (scan_kids hK hb diffS false (fun g i x hm hx => ?_) (fun g => ?_)) ?_
        · have hs := NodeA.size_lt hm
          simp only [lt_t hx, if_true, idx_nat, hx, Option.bind_some, ih x (by omega) (by omega) (by omega), outM_eq]
          cases diffS x <;> rfl
        · simp only [lt_f, Bool.false_eq_true, if_false]
        · cases n.kids.all diffS <;> rfl
theorem tree_differentiable_eq {K : Nat} {n : NodeA} (hK : n.size ≤ K) (hb : n.size ≤ 4611686018427387904) : tree_differentiable K n = some (diffS n) := tree_diff_eq K n hK hK hb
theorem r08_diff_eq {K : Nat} : ∀ (k : Nat) (n : NodeA), n.size ≤ k → n.size ≤ K → n.size ≤ 4611686018427387904 → iter k (fun self q => r08_differential_body K self q) n = some (diffS n) := by
  intro k
  induction k with
  | zero => intro n h; have := n.size_pos; omega
  | succ k ih =>
    intro n h hK hb
    rw [iter_succ, diffS_eq]
    generalize iter k (fun self q => r08_differential_body K self q) = S at ih ⊢
    unfold r08_differential_body
    have e : (n.op == 20 || (n.op == 21 || (n.op == 22 || (n.op == 23 || (n.op == 24 || (n.op == 25 || (n.op == 26 || (n.op == 27 || (n.op == 37 || n.op == 38))))))))) = (n.op == 20 || (n.op == 21 || (decide (22 ≤ n.op) && decide (n.op ≤ 27) || (n.op == 37 || n.op == 38)))) := by
      rw [Bool.eq_iff_iff]; simp; omega
    rw [e]
    have e2 : ∀ {b c : Bool}, (if decide (22 ≤ n.op) = true then if decide (n.op ≤ 27) = true then some true else if b = true then some true else some c else if b = true then some true else some c) = some (decide (22 ≤ n.op) && decide (n.op ≤ 27) || (b || c)) := by
      intro b c; cases decide (22 ≤ n.op) <;> cases decide (n.op ≤ 27) <;> cases b <;> rfl
    simp only [e2]
    simp only [orO, Option.bind_some]
    generalize (n.op == 20 || (n.op == 21 || (decide (22 ≤ n.op) && decide (n.op ≤ 27) || (n.op == 37 || n.op == 38)))) = a
    generalize (n.op == 29 || n.op == 30) = b
    cases a with
    | true => rfl
    | false =>
      cases b with
      | false => rfl
      | true =>
        simp only [Bool.false_eq_true, if_false, if_true, Bool.false_or, Bool.true_and]
        refine ob _ (scan_kids hK hb diffS false (fun g i x hm hx => ?_) (fun g => ?_)) ?_
        · have hs := NodeA.size_lt hm
          simp only [lt_t hx, if_true, idx_nat, hx, Option.bind_some, ih x (by omega) (by omega) (by omega), outM_eq]
          cases diffS x <;> rfl
        · simp only [lt_f, Bool.false_eq_true, if_false]
        · cases n.kids.all diffS <;> rfl
theorem r08_differential_eq {K : Nat} {n : NodeA} (hK : n.size ≤ K) (hb : n.size ≤ 4611686018427387904) : r08_differential K n = some (diffS n) := r08_diff_eq K n hK hK hb
theorem r08_prim_eq {K : Nat} : ∀ (k : Nat) (n : NodeA), n.size ≤ k → n.size ≤ K → n.size ≤ 4611686018427387904 → iter k (fun self q => r08_primed_body K self q) n = some (primS n) := by
  intro k
  induction k with
  | zero => intro n h; have := n.size_pos; omega
  | succ k ih =>
    intro n h hK hb
    rw [iter_succ, primS_eq]
    generalize iter k (fun self q => r08_primed_body K self q) = S at ih ⊢
    unfold r08_primed_body
    simp only [orO, Option.bind_some]
    generalize (n.op == 3 || (n.op == 12 || n.op == 39)) = a
    cases a with
    | true => rfl
    | false =>
      simp only [Bool.false_eq_true, if_false, Option.bind_some, Out.fin_go, Bool.false_or]
      refine ob _ (scan_kids hK hb (fun x => !primS x) true (fun g i x hm hx => ?_) (fun g => ?_)) ?_
      · have hs := NodeA.size_lt hm
        simp only [lt_t hx, if_true, idx_nat, hx, Option.bind_some, ih x (by omega) (by omega) (by omega), outM_eq]
        cases primS x <;> rfl
      · simp only [lt_f, Bool.false_eq_true, if_false]
      · have : (n.kids.all fun x => !primS x) = !n.kids.any primS := by rw [List.not_any_eq_all_not]
        rw [this]
        cases n.kids.any primS <;> rfl
theorem r08_primed_eq {K : Nat} {n : NodeA} (hK : n.size ≤ K) (hb : n.size ≤ 4611686018427387904) : r08_primed K n = some (primS n) := r08_prim_eq K n hK hK hb
abbrev big : Nat := 1099511627776
/-! ### Size, Levels, within -/
theorem sum_take {α : Type} {l : List α} {f : α → Nat} {i : Nat} {x : α} (h : l[i]? = some x) : ((l.take (i + 1)).map f).sum = ((l.take i).map f).sum + f x := by
  rw [List.take_add_one, h]; simp
theorem sum_take_le {α : Type} {l : List α} {f : α → Nat} : ∀ {i : Nat}, ((l.take i).map f).sum ≤ (l.map f).sum := by
  induction l with
  | nil => intro i; simp
  | cons x l ih => intro i; cases i with
    | zero => simp
    | succ i => rw [List.take_succ_cons, List.map_cons, List.map_cons, List.sum_cons, List.sum_cons]; have := ih (i := i); omega
theorem Size_iter {K : Nat} : ∀ (k : Nat) (n : NodeA), n.size ≤ k → n.size ≤ K → n.size ≤ big → iter k (fun self q => r08_Size_body K self q) n = some (n.size : Int) := by
  intro k
  induction k with
  | zero => intro n h; have := n.size_pos; omega
  | succ k ih =>
    intro n h hK hb
    rw [iter_succ]
    generalize iter k (fun self q => r08_Size_body K self q) = S at ih ⊢
    unfold r08_Size_body
    have hl := n.kids_lt
    have hsz : n.size = 1 + (n.kids.map NodeA.size).sum := by cases n with | mk o m r ks => rw [NodeA.size_mk]; rfl
    have hb' : n.size ≤ 1099511627776 := hb
    refine ob _ (foldG n.kids.length (fun i => (((1 + ((n.kids.take i).map NodeA.size).sum : Nat) : Int), (i : Int))) (n.size : Int) (fun g i hi => ?_) (fun g => ?_) (by omega) rfl) rfl
    · have hx : n.kids[i]? = some n.kids[i] := List.getElem?_eq_getElem hi
      have hm := List.getElem_mem hi
      have hs := NodeA.size_lt hm
      have h1 := sum_take (f := NodeA.size) hx
      have h2 := sum_take_le (l := n.kids) (f := NodeA.size) (i := i + 1)
      simp only [lt_t hx, if_true, idx_nat, hx, Option.bind_some, ih _ (show n.kids[i].size ≤ k by omega) (by omega) (by omega)]
      rw [w64s (by omega), w64 (by omega) (by omega), h1]
      congr 2
      omega
    · simp only [lt_f, Bool.false_eq_true, if_false, List.take_length, hsz]
theorem r08_Size_eq {K : Nat} {n : NodeA} (hK : n.size ≤ K) (hb : n.size ≤ big) : r08_Size K n = some (n.size : Int) := Size_iter K n hK hK hb
theorem lev_eq (n : NodeA) : n.lev = 1 + (n.kids.map NodeA.lev).foldl max 0 := by cases n with | mk o m r ks => rw [NodeA.lev_mk]; rfl
theorem Levels_iter {K : Nat} : ∀ (k : Nat) (n : NodeA), n.size ≤ k → n.size ≤ K → n.size ≤ big → iter k (fun self q => r08_Levels_body K self q) n = some (n.lev : Int) := by
  intro k
  induction k with
  | zero => intro n h; have := n.size_pos; omega
  | succ k ih =>
    intro n h hK hb
    rw [iter_succ]
    generalize iter k (fun self q => r08_Levels_body K self q) = S at ih ⊢
    unfold r08_Levels_body
    have hl := n.kids_lt
    have hll := n.lev_le_size
    have hb' : n.size ≤ 1099511627776 := hb
    refine ob (((n.kids.map NodeA.lev).foldl max 0 : Nat) : Int) (foldG n.kids.length (fun i => (((((n.kids.take i).map NodeA.lev).foldl max 0 : Nat) : Int), (i : Int))) _ (fun g i hi => ?_) (fun g => ?_) (by omega) rfl) ?_
    · have hx : n.kids[i]? = some n.kids[i] := List.getElem?_eq_getElem hi
      have hm := List.getElem_mem hi
      have hs := NodeA.size_lt hm
      simp only [lt_t hx, if_true, idx_nat, hx, Option.bind_some, ih _ (show n.kids[i].size ≤ k by omega) (by omega) (by omega)]
      rw [w64s (by omega), List.take_add_one, hx]
      congr 2
      simp only [Option.toList_some, List.map_append, List.map_cons, List.map_nil, List.foldl_append, List.foldl_cons, List.foldl_nil]
      split <;> omega
    · simp only [lt_f, Bool.false_eq_true, if_false, List.take_length]
    · rw [lev_eq] at hll ⊢
      rw [w64 (by omega) (by omega)]
      congr 1
      omega
theorem r08_Levels_eq {K : Nat} {n : NodeA} (hK : n.size ≤ K) (hb : n.size ≤ big) : r08_Levels K n = some (n.lev : Int) := Levels_iter K n hK hK hb
def Within (n : NodeA) (L v : Int) (r : Bool × Int) : Prop := if (n.size : Int) ≤ L ∧ (n.lev : Int) ≤ v then r = (true, L - n.size) else r.1 = false
theorem foldl_max_le {l : List Nat} {v : Nat} : l.foldl max 0 ≤ v ↔ ∀ x ∈ l, x ≤ v := by
  induction l with
  | nil => simp
  | cons y l ih => rw [List.foldl_cons, foldl_max]; simp only [List.mem_cons, forall_eq_or_imp]; rw [← ih]; omega
theorem within_iter {K : Nat} : ∀ (k : Nat) (n : NodeA) (L v : Int), n.size ≤ k → n.size ≤ K → n.size ≤ big → 0 ≤ L → L ≤ 1000000 → -1000000 ≤ v → v ≤ 1000000 → v - n.size ≥ -1152921504606846976 → ∃ r, iter k (fun self q => tree_within_body K self q.1 q.2.1 q.2.2) (n, L, v) = some r ∧ Within n L v r := by
  intro k
  induction k with
  | zero => intro n L v h; have := n.size_pos; omega
  | succ k ih =>
    intro n L v h hK hb hL hL' hv hv' hvs
    rw [iter_succ]
    generalize iter k (fun self q => tree_within_body K self q.1 q.2.1 q.2.2) = S at ih ⊢
    have hl := n.kids_lt
    have hp := n.size_pos
    have hlv := lev_eq n
    have hsz : n.size = 1 + (n.kids.map NodeA.size).sum := by cases n with | mk o m r ks => rw [NodeA.size_mk]; rfl
    have hb' : n.size ≤ 1099511627776 := hb
    have e1 : IntKind.wrap .i64 (L - 1) = L - 1 := w64 (by omega) (by omega)
    have e2 : IntKind.wrap .i64 (v - 1) = v - 1 := w64 (by omega) (by omega)
    unfold tree_within_body
    simp only [e1, e2]
    by_cases hc : L - 1 < 0 ∨ v ≤ 0
    · refine ⟨(false, L - 1), ?_, ?_⟩
      · have : (if decide (L - 1 < 0) = true then some true else some (decide (v ≤ 0))) = some true := by
          rcases hc with h | h
          · rw [decide_eq_true h]; rfl
          · rw [decide_eq_true h]; split <;> rfl
        rw [this]; rfl
      · unfold Within
        rw [if_neg]
        rintro ⟨h1, h2⟩
        rcases hc with h | h <;> omega
    · have : (if decide (L - 1 < 0) = true then some true else some (decide (v ≤ 0))) = some false := by
        have h1 : decide (L - 1 < 0) = false := by simp; omega
        have h2 : decide (v ≤ 0) = false := by simp; omega
        rw [h1, h2]; rfl
      rw [this]
      simp only [Option.bind_some, Bool.false_eq_true, if_false, Out.fin_go]
      have hlev : (∀ x ∈ n.kids, (x.lev : Int) ≤ v - 1) ↔ (n.lev : Int) ≤ v := by
        rw [hlv]
        constructor
        · intro hq
          have : (n.kids.map NodeA.lev).foldl max 0 ≤ (v - 1).toNat := foldl_max_le.2 fun x hx => by
            obtain ⟨y, hy, rfl⟩ := List.mem_map.1 hx
            have := hq y hy; omega
          omega
        · intro hq x hx
          have := foldl_max_le.1 (Nat.le_refl ((n.kids.map NodeA.lev).foldl max 0)) _ (List.mem_map_of_mem hx)
          omega
      refine ex_ob (Exists.imp (fun o ho => ⟨ho.1, ?_⟩) (loopE (fun i (s : Int × Int) => s.1 = i ∧ 0 ≤ s.2 ∧ s.2 ≤ 1000000)
        (fun i s o => if ((((n.kids.drop i).map NodeA.size).sum : Nat) : Int) ≤ s.2 ∧ (∀ x ∈ n.kids.drop i, (x.lev : Int) ≤ v - 1) then o = .go (s.2 - ((((n.kids.drop i).map NodeA.size).sum : Nat) : Int)) else ∃ z, o = .out (false, z))
        n.kids.length (fun g i s hi hj hg => ?_) (fun g s hj => ?_) 0 (0, L - 1) ⟨rfl, by simp only; omega, by simp only; omega⟩ (Nat.zero_le _) (by omega)))
      · have h2 := ho.2
        rw [List.drop_zero] at h2
        simp only at h2
        by_cases hc3 : ((((n.kids).map NodeA.size).sum : Nat) : Int) ≤ L - 1 ∧ ∀ x ∈ n.kids, (x.lev : Int) ≤ v - 1
        · rw [if_pos hc3] at h2
          subst h2
          refine ⟨(true, L - n.size), ?_, ?_⟩
          · simp only [Out.fin_go, hsz]; congr 2; omega
          · unfold Within; rw [if_pos ⟨by omega, hlev.1 hc3.2⟩]
        · rw [if_neg hc3] at h2
          obtain ⟨z, rfl⟩ := h2
          refine ⟨(false, z), rfl, ?_⟩
          unfold Within; rw [if_neg fun hq => hc3 ⟨by omega, hlev.2 hq.2⟩]
      · obtain ⟨s1, M⟩ := s
        obtain ⟨rfl, hM, hM'⟩ := hj
        simp only at hM hM'
        have hx : n.kids[i]? = some n.kids[i] := List.getElem?_eq_getElem hi
        have hm := List.getElem_mem hi
        have hs := NodeA.size_lt hm
        have hbk : n.kids[i].size ≤ big := by unfold big; omega
        obtain ⟨r, hr, hw⟩ := ih n.kids[i] M (v - 1) (by omega) (by omega) hbk hM hM' (by omega) (by omega) (by omega)
        simp only [lt_t hx, if_true, idx_nat, hx, Option.bind_some, hr]
        have hdrop := List.drop_eq_getElem_cons hi
        have hsum : ((n.kids.drop i).map NodeA.size).sum = n.kids[i].size + ((n.kids.drop (i + 1)).map NodeA.size).sum := by rw [hdrop, List.map_cons, List.sum_cons]
        have hall : (∀ x ∈ n.kids.drop i, (x.lev : Int) ≤ v - 1) ↔ (n.kids[i].lev : Int) ≤ v - 1 ∧ ∀ x ∈ n.kids.drop (i + 1), (x.lev : Int) ≤ v - 1 := by rw [hdrop]; exact List.forall_mem_cons
        unfold Within at hw
        by_cases hok : (n.kids[i].size : Int) ≤ M ∧ (n.kids[i].lev : Int) ≤ v - 1
        · rw [if_pos hok] at hw
          subst hw
          simp only [Bool.not_true, Bool.false_eq_true, if_false]
          rw [w64s (by omega)]
          obtain ⟨o, h1, h2⟩ := hg (((i + 1 : Nat) : Int), M - n.kids[i].size) ⟨rfl, by simp only; omega, by simp only; omega⟩
          simp only at h2
          refine ⟨o, h1, ?_⟩
          by_cases hc2 : ((((n.kids.drop (i + 1)).map NodeA.size).sum : Nat) : Int) ≤ M - n.kids[i].size ∧ ∀ x ∈ n.kids.drop (i + 1), (x.lev : Int) ≤ v - 1
          · rw [if_pos hc2] at h2
            rw [if_pos ⟨by rw [hsum]; omega, hall.2 ⟨hok.2, hc2.2⟩⟩, h2, hsum]
            congr 1
            omega
          · rw [if_neg hc2] at h2
            rw [if_neg fun hq => hc2 ⟨by rw [hsum] at hq; omega, (hall.1 hq.2).2⟩]
            exact h2
        · rw [if_neg hok] at hw
          rw [hw]
          refine ⟨.out (false, r.2), rfl, ?_⟩
          rw [if_neg fun hq => hok ⟨by rw [hsum] at hq; omega, (hall.1 hq.2).1⟩]
          exact ⟨_, rfl⟩
      · obtain ⟨s1, M⟩ := s
        obtain ⟨rfl, hM, hM'⟩ := hj
        simp only at hM hM'
        refine ⟨.go M, by simp only [lt_f, Bool.false_eq_true, if_false], ?_⟩
        rw [List.drop_length, if_pos ⟨by simpa using hM, fun x hx => by cases hx⟩]; simp
theorem tree_within_eq {K : Nat} {n : NodeA} (hK : n.size ≤ K) (hb : n.size ≤ big) : ∃ r, tree_within K n 4000 60 = some r ∧ Within n 4000 60 r :=
  within_iter K n 4000 60 hK hK hb (by omega) (by omega) (by omega) (by omega) (by unfold big at hb; omega)
/-! ### formed and well -/
abbrev emptyB (s : ByteArray) : Bool := s.toList == (⟨#[]⟩ : ByteArray).toList
theorem emptyB_name {s : ByteArray} (h : emptyB s = true) : nameB s = false := by
  have : s = ⟨#[]⟩ := bytes_eq.1 h
  subst this; rfl
def numC (n : NodeA) : Bool := if n.op == 1 then natS n.num else !(n.num.neg || (decide (0 < (n.num.num.length : Int)) || decide (0 < (n.num.den.length : Int))))
def nameC (n : NodeA) : Bool := if namedS n.op || (n.op == 10 || n.op == 37) then nameB n.name else emptyB n.name
def flowK (kids : List NodeA) (i : Nat) : Bool := (kids[i]?).all fun x => !(x.op != 55 && (x.op != 56 || (i : Int) != ((kids.length - 2 : Nat) : Int))) && (kids.take i).all fun y => !(x.op == 55 && y.name.toList == x.name.toList)
def stC (n : NodeA) (d fd fl : Bool) : Bool :=
  if n.op == 10 || n.op == 37 then decide (n.kids.length ≤ 1)
  else if n.op == 54 then decide (2 ≤ n.kids.length) && (List.range (n.kids.length - 1)).all (flowK n.kids)
  else if n.op == 3 then !(d || (fd || fl))
  else if n.op == 12 then !(d || fl)
  else if n.op == 39 then !(fl || (((n.kids.length : Int) != 1) || !((n.kids[0]?).all diffS)))
  else true
def sortsC (n : NodeA) : List Int :=
  if n.op == 10 || n.op == 37 then List.replicate n.kids.length 1
  else if n.op == 54 then List.replicate (n.kids.length - 1) 4 ++ [2]
  else (sortsS n.op).getD []
def lastC (n : NodeA) : Bool :=
  if n.op == 8 then (n.kids[1]?).all fun x => x.op == 1 && decide (0 < (x.num.num.length : Int))
  else if n.op == 9 then (n.kids[1]?).all fun x => x.op == 1 && (((x.num.num.length : Int) == 0) || ((x.num.num.length : Int) == 1) && (x.num.num[0]?).all fun w => decide (w ≤ 20))
  else true
def okS : NodeA → Bool → Bool → Bool → Bool
  | .mk op name num kids, d, fd, fl =>
    numC (.mk op name num kids) && (nameC (.mk op name num kids) && (stC (.mk op name num kids) d fd fl && ((kids.map fun x => sortS x.op) == sortsC (.mk op name num kids) && ((kids.attach.all fun ⟨k, _⟩ => okS k (d || op == 12) (fd || op == 39) (fl || op == 54)) && lastC (.mk op name num kids)))))
termination_by n => SizeOf.sizeOf n
decreasing_by exact NodeA.size_kid (by assumption)
theorem okS_eq (n : NodeA) (d fd fl : Bool) : okS n d fd fl = (numC n && (nameC n && (stC n d fd fl && ((n.kids.map fun x => sortS x.op) == sortsC n && (n.kids.all (fun k => okS k (d || n.op == 12) (fd || n.op == 39) (fl || n.op == 54)) && lastC n))))) := by
  cases n with
  | mk o m r ks =>
    rw [okS]
    have : (ks.attach.all fun x => match x with | ⟨k, _⟩ => okS k (d || o == 12) (fd || o == 39) (fl || o == 54)) = ks.all (fun k => okS k (d || o == 12) (fd || o == 39) (fl || o == 54)) := by
      rw [Bool.eq_iff_iff]; simp [List.all_eq_true]
    rw [this]; rfl
theorem num_join {K : Nat} {n : NodeA} : (if (n.op == (1 : Int)) then (tree_natural K n.num).bind fun r4 => if (!r4) then outM (some false) else some (.go ()) else
      ((if n.num.neg then some true else if (decide ((0 : Int) < (n.num.num.length : Int))) then some true else some (decide ((0 : Int) < (n.num.den.length : Int)))) : Option Bool).bind (fun v7_0 => if v7_0 then outM (some false) else some (.go ())) : Option (Out Unit Bool)) = some (if numC n then .go () else .out false) := by
  unfold numC
  simp only [tree_natural_eq, Option.bind_some, orO, outM_eq]
  cases (n.op == 1) <;> cases natS n.num <;> cases (n.num.neg || (decide (0 < (n.num.num.length : Int)) || decide (0 < (n.num.den.length : Int)))) <;> rfl
theorem num_join' {K : Nat} {n : NodeA} : (if (n.op == (1 : Int)) then (r08_natural K n.num).bind fun r4 => if (!r4) then outM (some false) else some (.go ()) else
      ((if n.num.neg then some true else if (decide ((0 : Int) < (n.num.num.length : Int))) then some true else some (decide ((0 : Int) < (n.num.den.length : Int)))) : Option Bool).bind (fun v7_0 => if v7_0 then outM (some false) else some (.go ())) : Option (Out Unit Bool)) = some (if numC n then .go () else .out false) := by
  unfold numC
  simp only [r08_natural_eq, Option.bind_some, orO, outM_eq]
  cases (n.op == 1) <;> cases natS n.num <;> cases (n.num.neg || (decide (0 < (n.num.num.length : Int)) || decide (0 < (n.num.den.length : Int)))) <;> rfl
theorem app_one {i : Nat} {x : Int} (h : i ≤ big) : appO 8 (List.replicate i x) [x] = some (List.replicate (i + 1) x) := by
  unfold appO big at *
  rw [if_pos (by simp; omega), List.replicate_succ']
theorem map_eq {n : NodeA} {l : List Int} (hl : n.kids.length = l.length) (q : NodeA → Bool) :
    ((List.range n.kids.length).all fun i => (n.kids[i]?).all fun x => (l[i]?).all fun s => !(sortS x.op != s) && q x) = (((n.kids.map fun x => sortS x.op) == l) && n.kids.all q) := by
  rw [Bool.eq_iff_iff]
  simp only [List.all_eq_true, List.mem_range, Bool.and_eq_true, beq_iff_eq]
  constructor
  · intro h
    have get : ∀ i (hi : i < n.kids.length), sortS n.kids[i].op = l[i]'(by omega) ∧ q n.kids[i] = true := fun i hi => by
      have := h i hi
      rw [List.getElem?_eq_getElem hi, List.getElem?_eq_getElem (show i < l.length by omega)] at this
      simpa using this
    refine ⟨List.ext_getElem (by simpa using hl) fun i h1 h2 => ?_, fun x hx => ?_⟩
    · rw [List.getElem_map]; exact (get i (by simpa using h1)).1
    · obtain ⟨i, hi, rfl⟩ := List.mem_iff_getElem.1 hx
      exact (get i hi).2
  · rintro ⟨rfl, h⟩ i hi
    have hx : n.kids[i]? = some n.kids[i] := List.getElem?_eq_getElem hi
    simp [hx, h _ (List.getElem_mem hi)]
theorem formed_iter {K : Nat} (hK : 12 < K) : ∀ (k : Nat) (n : NodeA) (at' : Tree_placeA), n.size ≤ k → n.size ≤ K → n.size ≤ big → sortS n.op ≠ 0 →
    iter k (fun self q => tree_formed_body K self q.1 q.2) (n, at') = some (okS n at'.inDiff at'.inFDiff at'.inFlow) := by
  intro k
  induction k with
  | zero => intro n a h; have := n.size_pos; omega
  | succ k ih =>
    intro n a h hK2 hb hsort
    rw [iter_succ, okS_eq]
    generalize iter k (fun self q => tree_formed_body K self q.1 q.2) = S at ih ⊢
    obtain ⟨d, fd, fl⟩ := a
    have hl := n.kids_lt
    have htab := tab hsort
    have hbig : n.size ≤ 1099511627776 := hb
    unfold tree_formed_body
    refine ob _ num_join ?_
    cases hA : numC n with
    | false => rfl
    | true =>
    simp only [if_true, Out.fin_go, tree_shape_eq, Option.bind_some, tree_Name_eq hK, Bool.true_and]
    refine ob (if (namedS n.op && nameB n.name || !namedS n.op && (emptyB n.name || (n.op == 10 || n.op == 37))) then .go () else .out false) ?_ ?_
    · have e10 : (n.op != 10) = !(n.op == 10) := rfl
      have e37 : (n.op != 37) = !(n.op == 37) := rfl
      rw [e10, e37]
      generalize (n.op == 10) = b10
      generalize (n.op == 37) = b37
      have : (n.name.toList == (⟨#[]⟩ : ByteArray).toList) = emptyB n.name := rfl
      rw [this]
      cases namedS n.op <;> cases nameB n.name <;> cases emptyB n.name <;> cases b10 <;> cases b37 <;> rfl
    cases hB : (namedS n.op && nameB n.name || !namedS n.op && (emptyB n.name || (n.op == 10 || n.op == 37))) with
    | false =>
      have : nameC n = false := by
        unfold nameC
        revert hB
        cases namedS n.op <;> cases nameB n.name <;> cases emptyB n.name <;> cases (n.op == 10 || n.op == 37) <;> simp
      rw [this]; rfl
    | true =>
    simp only [if_true, Out.fin_go]
    -- the places
    refine ob (if (!(n.op == 10 || n.op == 37) || nameB n.name) && stC n d fd fl then .go (sortsC n, (⟨d || n.op == 12, fd || n.op == 39, fl || n.op == 54⟩ : Tree_placeA)) else .out false) ?_ ?_
    · by_cases h10 : (n.op == 10 || n.op == 37) = true
      · obtain ⟨hs0, hn0⟩ := htab.2.2.2.1 (by rw [h10]; rfl)
        have o12 : (n.op == 12) = false := by rw [Bool.eq_false_iff]; intro hc; simp at hc h10; omega
        have o39 : (n.op == 39) = false := by rw [Bool.eq_false_iff]; intro hc; simp at hc h10; omega
        have o54 : (n.op == 54) = false := by rw [Bool.eq_false_iff]; intro hc; simp at hc h10; omega
        have e : stC n d fd fl = decide (n.kids.length ≤ 1) := by unfold stC; rw [if_pos h10]
        have e2 : sortsC n = List.replicate n.kids.length 1 := by unfold sortsC; rw [if_pos h10]
        rw [e, e2, o12, o39, o54, h10, Bool.not_true, Bool.false_or, Bool.or_false, Bool.or_false, Bool.or_false]
        simp only [orO', h10, Option.bind_some, if_true]
        cases hnm : nameB n.name with
        | false => rfl
        | true =>
          by_cases h1 : n.kids.length ≤ 1
          · have hd : decide ((1 : Int) < (n.kids.length : Int)) = false := by simp; omega
            simp only [Bool.not_true, Bool.false_eq_true, if_false, hd, Option.bind_some, Out.fin_go, hs0, Option.isNone_none, must, if_true, Bool.true_and, decide_eq_true h1]
            refine ob _ (foldG n.kids.length (fun i => ((i : Int), List.replicate i (1 : Int))) (List.replicate n.kids.length 1) (fun g i hi => ?_) (fun g => ?_) (by omega) rfl) rfl
            · have hx : n.kids[i]? = some n.kids[i] := List.getElem?_eq_getElem hi
              simp only [lt_t hx, if_true, app_one (show i ≤ big by unfold big; omega), Option.bind_some]
              rw [w64s (by omega)]
            · simp only [lt_f, Bool.false_eq_true, if_false]
          · have hd : decide ((1 : Int) < (n.kids.length : Int)) = true := by simp; omega
            have hd2 : decide (n.kids.length ≤ 1) = false := by simp; omega
            simp only [Bool.not_true, Bool.false_eq_true, if_false, hd, Option.bind_some, hd2, Bool.and_false]
            rfl
      · have h10' : (n.op == 10 || n.op == 37) = false := by simpa using h10
        rw [h10', Bool.not_false, Bool.true_or, Bool.true_and]
        simp only [orO', h10', Option.bind_some, Bool.false_eq_true, if_false]
        by_cases h54 : (n.op == 54) = true
        · obtain ⟨hs0, hn0⟩ := htab.2.2.2.1 (by rw [h54]; simp)
          have o12 : (n.op == 12) = false := by rw [Bool.eq_false_iff]; intro hc; simp at hc h54; omega
          have o39 : (n.op == 39) = false := by rw [Bool.eq_false_iff]; intro hc; simp at hc h54; omega
          have e : stC n d fd fl = (decide (2 ≤ n.kids.length) && (List.range (n.kids.length - 1)).all (flowK n.kids)) := by unfold stC; rw [h10', h54]; rfl
          have e2 : sortsC n = List.replicate (n.kids.length - 1) 4 ++ [2] := by unfold sortsC; rw [h10', h54]; rfl
          have he : emptyB n.name = true := by
            revert hB; rw [hn0, h10']; simp
          have he' : (n.name.toList == (⟨#[]⟩ : ByteArray).toList) = true := he
          rw [e, e2, o12, o39, h54, Bool.or_true, Bool.or_false, Bool.or_false]
          simp only [if_true, he', Bool.not_true, Bool.false_eq_true, if_false]
          by_cases h2 : 2 ≤ n.kids.length
          · have hd : decide ((n.kids.length : Int) < 2) = false := by simp; omega
            have e3 : IntKind.wrap .i64 ((n.kids.length : Int) - 1) = ((n.kids.length - 1 : Nat) : Int) := by rw [w64 (by omega) (by omega)]; omega
            have e4 : IntKind.wrap .i64 (((n.kids.length - 1 : Nat) : Int) - 1) = ((n.kids.length - 2 : Nat) : Int) := by rw [w64 (by omega) (by omega)]; omega
            simp only [hd, Bool.false_eq_true, if_false, Option.bind_some, Out.fin_go, hs0, Option.isNone_none, must, if_true, e3, e4, decide_eq_true h2, Bool.true_and]
            refine ob _ (scanG (n.kids.length - 1) (fun i => ((i : Int), List.replicate i (4 : Int))) (flowK n.kids) (Out.out false : Out (List Int × Tree_placeA) Bool) (List.replicate (n.kids.length - 1) 4) (fun g i hi => ?_) (fun g => ?_) (by omega) rfl) ?_
            · have hi' : i < n.kids.length := by omega
              have hx : n.kids[i]? = some n.kids[i] := List.getElem?_eq_getElem hi'
              have hd : decide ((i : Int) < ((n.kids.length - 1 : Nat) : Int)) = true := by simp; omega
              have hcut : cutL n.kids none (some (i : Int)) = some (n.kids.take i) := by
                unfold cutL; simp only [Option.getD_some, Option.getD_none]
                rw [if_pos (by omega)]; simp
              simp only [hd, if_true, idx_nat, hx, Option.bind_some, hcut]
              have hC : flowK n.kids i = (!(n.kids[i].op != 55 && (n.kids[i].op != 56 || (i : Int) != ((n.kids.length - 2 : Nat) : Int))) && (n.kids.take i).all fun y => !(n.kids[i].op == 55 && y.name.toList == n.kids[i].name.toList)) := by unfold flowK; rw [hx]; rfl
              rw [hC, w64s (by omega)]
              simp only [orO, andO, Option.bind_some]
              refine ob (if (!(n.kids[i].op != 55 && (n.kids[i].op != 56 || (i : Int) != ((n.kids.length - 2 : Nat) : Int))) && (n.kids.take i).all fun y => !(n.kids[i].op == 55 && y.name.toList == n.kids[i].name.toList)) then .go (List.replicate (i + 1) 4) else .out (.out (.out false))) ?_ ?_
              · cases hb : (n.kids[i].op != 55 && (n.kids[i].op != 56 || (i : Int) != ((n.kids.length - 2 : Nat) : Int))) with
                | true => rfl
                | false =>
                  simp only [Option.bind_some, Bool.false_eq_true, if_false, Out.fin_go, Bool.not_false, Bool.true_and]
                  have hti : (n.kids.take i).length = i := by rw [List.length_take]; omega
                  refine ob _ (scanG (n.kids.take i).length (fun j => (j : Int)) (fun j => ((n.kids.take i)[j]?).all fun y => !(n.kids[i].op == 55 && y.name.toList == n.kids[i].name.toList)) (.out (.out (.out false))) () (fun g' j hj => ?_) (fun g' => ?_) (by omega) rfl) ?_
                  · have hy : (n.kids.take i)[j]? = some (n.kids.take i)[j] := List.getElem?_eq_getElem hj
                    simp only [lt_t hy, if_true, idx_nat, hy, Option.bind_some, Option.all_some]
                    rw [w64s (by omega)]
                    cases (n.kids[i].op == 55 && (n.kids.take i)[j].name.toList == n.kids[i].name.toList) <;> rfl
                  · simp only [lt_f, Bool.false_eq_true, if_false]
                  · rw [range_all]
                    cases ((n.kids.take i).all fun y => !(n.kids[i].op == 55 && y.name.toList == n.kids[i].name.toList)) with
                    | false => rfl
                    | true => simp only [if_true, Out.fin_go, app_one (show i ≤ big by unfold big; omega), Option.bind_some]
              · cases (!(n.kids[i].op != 55 && (n.kids[i].op != 56 || (i : Int) != ((n.kids.length - 2 : Nat) : Int))) && (n.kids.take i).all fun y => !(n.kids[i].op == 55 && y.name.toList == n.kids[i].name.toList)) <;> rfl
            · have hd : decide (((n.kids.length - 1 : Nat) : Int) < ((n.kids.length - 1 : Nat) : Int)) = false := by simp
              simp only [hd, Bool.false_eq_true, if_false]
            · cases (List.range (n.kids.length - 1)).all (flowK n.kids) with
              | false => rfl
              | true =>
                simp only [if_true, Out.fin_go, appO]
                rw [if_pos (by simp; omega)]; rfl
          · have hd : decide ((n.kids.length : Int) < 2) = true := by simp; omega
            have hd2 : decide (2 ≤ n.kids.length) = false := by simp; omega
            simp only [hd, hd2, if_true, Option.bind_some, Bool.false_and]
            rfl
        · have h54' : (n.op == 54) = false := by simpa using h54
          have e2 : sortsC n = (sortsS n.op).getD [] := by unfold sortsC; rw [h10', h54']; rfl
          have e1 : stC n d fd fl = if n.op == 3 then !(d || (fd || fl)) else if n.op == 12 then !(d || fl) else if n.op == 39 then !(fl || (((n.kids.length : Int) != 1) || !((n.kids[0]?).all diffS))) else true := by
            unfold stC; rw [h10', h54']; rfl
          rw [e1, e2, h54', Bool.or_false]
          simp only [Bool.false_eq_true, if_false]
          by_cases h3 : (n.op == 3) = true
          · have o12 : (n.op == 12) = false := by rw [Bool.eq_false_iff]; intro hc; simp at hc h3; omega
            have o39 : (n.op == 39) = false := by rw [Bool.eq_false_iff]; intro hc; simp at hc h3; omega
            simp only [h3, o12, o39, if_true, Bool.or_false]
            cases d <;> cases fd <;> cases fl <;> rfl
          have h3' : (n.op == 3) = false := by simpa using h3
          by_cases h12 : (n.op == 12) = true
          · have o39 : (n.op == 39) = false := by rw [Bool.eq_false_iff]; intro hc; simp at hc h12; omega
            simp only [h3', h12, o39, if_true, Bool.or_false, Bool.or_true, Bool.false_eq_true, if_false]
            cases d <;> cases fd <;> cases fl <;> rfl
          have h12' : (n.op == 12) = false := by simpa using h12
          by_cases h39 : (n.op == 39) = true
          · simp only [h3', h12', h39, if_true, Bool.or_false, Bool.or_true, Bool.false_eq_true, if_false]
            cases fl with
            | true => rfl
            | false =>
              by_cases hk : n.kids.length = 1
              · have hx : n.kids[0]? = some n.kids[0] := List.getElem?_eq_getElem (by omega)
                have hm : n.kids[0] ∈ n.kids := List.getElem_mem (by omega)
                have hs := NodeA.size_lt hm
                have i0 : idx n.kids 0 = some n.kids[0] := by rw [← hx]; exact idx_nat (k := 0)
                have e : ((n.kids.length : Int) != 1) = false := by simp [hk]
                simp only [e, Bool.false_eq_true, if_false, i0, hx, Option.bind_some, Option.all_some, tree_differentiable_eq (show n.kids[0].size ≤ K by omega) (show n.kids[0].size ≤ 4611686018427387904 by omega)]
                cases diffS n.kids[0] <;> cases d <;> cases fd <;> rfl
              · have e : ((n.kids.length : Int) != 1) = true := by simp; omega
                simp only [e, Bool.false_eq_true, if_false, if_true, Bool.false_or, Bool.true_or]
                rfl
          have h39' : (n.op == 39) = false := by simpa using h39
          simp only [h3', h12', h39', Bool.false_eq_true, if_false, if_true, Bool.or_false]
    cases hC : ((!(n.op == 10 || n.op == 37) || nameB n.name) && stC n d fd fl) with
    | false =>
      have : (nameC n && stC n d fd fl) = false := by
        unfold nameC
        revert hB hC
        cases namedS n.op <;> cases nameB n.name <;> cases emptyB n.name <;> cases (n.op == 10 || n.op == 37) <;> cases stC n d fd fl <;> simp
      rw [← Bool.and_assoc, this]; rfl
    | true =>
    have hN : nameC n = true := by
      unfold nameC
      revert hB hC
      cases namedS n.op <;> cases nameB n.name <;> cases emptyB n.name <;> cases (n.op == 10 || n.op == 37) <;> simp
    have hS : stC n d fd fl = true := by
      revert hC; cases stC n d fd fl <;> simp
    rw [hN, hS]
    simp only [if_true, Out.fin_go, Bool.true_and]
    have hne : ∀ s ∈ sortsC n, s ≠ 0 := by
      unfold sortsC
      split
      · intro s hs; have := List.eq_of_mem_replicate hs; omega
      · split
        · intro s hs
          rcases List.mem_append.1 hs with hs | hs
          · have := List.eq_of_mem_replicate hs; omega
          · have := List.mem_singleton.1 hs; omega
        · exact htab.2.2.2.2.2.2.2
    by_cases hlen : n.kids.length = (sortsC n).length
    · have e : ((n.kids.length : Int) != ((sortsC n).length : Int)) = false := by rw [hlen]; simp
      simp only [e, Bool.false_eq_true, if_false]
      refine ob (if ((n.kids.map fun x => sortS x.op) == sortsC n && n.kids.all (fun k => okS k (d || n.op == 12) (fd || n.op == 39) (fl || n.op == 54))) then .go () else .out false) ?_ ?_
      · rw [← map_eq hlen (fun k => okS k (d || n.op == 12) (fd || n.op == 39) (fl || n.op == 54))]
        refine scanG n.kids.length (fun i => (i : Int)) _ false () (fun g i hi => ?_) (fun g => ?_) (by omega) rfl
        · have hx : n.kids[i]? = some n.kids[i] := List.getElem?_eq_getElem hi
          have hm := List.getElem_mem hi
          have hs := NodeA.size_lt hm
          have hbk : n.kids[i].size ≤ big := by unfold big; omega
          have hy : (sortsC n)[i]? = some ((sortsC n)[i]'(by omega)) := List.getElem?_eq_getElem (by omega)
          have hy0 := hne _ (List.getElem_mem (show i < (sortsC n).length by omega))
          simp only [lt_t hx, if_true, idx_nat, hx, hy, Option.bind_some, tree_Sort_eq, Option.all_some]
          generalize (sortsC n)[i]'(by omega) = s at hy0
          by_cases hq : sortS n.kids[i].op = s
          · have e1 : (sortS n.kids[i].op != s) = false := by simp [hq]
            simp only [e1, Bool.false_eq_true, if_false, Bool.not_false, Bool.true_and, ih n.kids[i] ⟨d || n.op == 12, fd || n.op == 39, fl || n.op == 54⟩ (by omega) (by omega) hbk (by rw [hq]; exact hy0), Option.bind_some]
            rw [w64s (by omega)]
            cases okS n.kids[i] (d || n.op == 12) (fd || n.op == 39) (fl || n.op == 54) <;> rfl
          · have e1 : (sortS n.kids[i].op != s) = true := by simp [hq]
            simp only [e1, if_true, Bool.not_true, Bool.false_and]
            rfl
        · simp only [lt_f, Bool.false_eq_true, if_false]
      · rw [← Bool.and_assoc ((n.kids.map fun x => sortS x.op) == sortsC n)]
        cases hD : ((n.kids.map fun x => sortS x.op) == sortsC n && n.kids.all (fun k => okS k (d || n.op == 12) (fd || n.op == 39) (fl || n.op == 54))) with
        | false => rfl
        | true =>
          simp only [if_true, Out.fin_go, Bool.true_and]
          unfold lastC
          by_cases h89 : (n.op == 8 || n.op == 9) = true
          · have a10 : (n.op == 10 || n.op == 37) = false := by rw [Bool.eq_false_iff]; intro hc; simp at hc h89; omega
            have a54 : (n.op == 54) = false := by rw [Bool.eq_false_iff]; intro hc; simp at hc h89; omega
            have h2 : n.kids.length = 2 := by
              rw [hlen]; unfold sortsC
              rw [a10, a54, htab.2.2.2.2.2.1 h89]; rfl
            have hx : n.kids[1]? = some n.kids[1] := List.getElem?_eq_getElem (by omega)
            have i1 : idx n.kids 1 = some n.kids[1] := by rw [← hx]; exact idx_nat (k := 1)
            simp only [i1, hx, Option.bind_some, Option.all_some]
            cases (n.op == 8) with
            | true => cases (n.kids[1].op == 1) <;> rfl
            | false =>
              cases (n.op == 9) with
              | false => rfl
              | true =>
                simp only [Bool.false_eq_true, if_false, if_true]
                cases (n.kids[1].op == 1) with
                | false => rfl
                | true =>
                  simp only [if_true, Bool.true_and]
                  by_cases h0 : n.kids[1].num.num.length = 0
                  · rw [int_eq0 h0]; rfl
                  · have hw : n.kids[1].num.num[0]? = some n.kids[1].num.num[0] := List.getElem?_eq_getElem (by omega)
                    have i0 : idx n.kids[1].num.num 0 = some n.kids[1].num.num[0] := by rw [← hw]; exact idx_nat (k := 0)
                    simp only [int_ne0 h0, Bool.false_eq_true, if_false, Bool.false_or, i0, hw, Option.bind_some, Option.all_some, andO]
          · have h8 : (n.op == 8) = false := by revert h89; cases (n.op == 8) <;> simp
            have h9 : (n.op == 9) = false := by revert h89; cases (n.op == 9) <;> simp
            rw [h8, h9]; rfl
    · have e : ((n.kids.length : Int) != ((sortsC n).length : Int)) = true := by simp; omega
      have e2 : ((n.kids.map fun x => sortS x.op) == sortsC n) = false := by
        rw [beq_eq_false_iff_ne]; intro hq; apply hlen; rw [← hq]; simp
      rw [e, e2]; rfl
theorem okS_fl : ∀ n d fd, okS n d fd true = (okS n d fd false && !primS n) := by
  refine NodeA.ind fun n ih d fd => ?_
  rw [okS_eq n d fd true, okS_eq n d fd false, primS_eq]
  have hk : n.kids.all (fun k => okS k (d || n.op == 12) (fd || n.op == 39) true) = (n.kids.all (fun k => okS k (d || n.op == 12) (fd || n.op == 39) false) && !n.kids.any primS) := by
    rw [Bool.eq_iff_iff, Bool.and_eq_true, List.all_eq_true, List.all_eq_true, Bool.not_eq_true', List.any_eq_false]
    constructor
    · intro h
      refine ⟨fun x hx => ?_, fun x hx => ?_⟩ <;> (have := h x hx; rw [ih x hx] at this; revert this; cases okS x (d || n.op == 12) (fd || n.op == 39) false <;> cases primS x <;> simp)
    · rintro ⟨h1, h2⟩ x hx
      rw [ih x hx, h1 x hx]
      have := h2 x hx
      revert this; cases primS x <;> simp
  have hst : stC n d fd true = (stC n d fd false && !(n.op == 3 || (n.op == 12 || n.op == 39))) := by
    unfold stC
    by_cases h1 : (n.op == 10 || n.op == 37) = true
    · have a3 : (n.op == 3) = false := by rw [Bool.eq_false_iff]; intro hc; simp at hc h1; omega
      have a12 : (n.op == 12) = false := by rw [Bool.eq_false_iff]; intro hc; simp at hc h1; omega
      have a39 : (n.op == 39) = false := by rw [Bool.eq_false_iff]; intro hc; simp at hc h1; omega
      simp [h1, a3, a12, a39]
    · have h1' : (n.op == 10 || n.op == 37) = false := by simpa using h1
      by_cases h2 : (n.op == 54) = true
      · have a3 : (n.op == 3) = false := by rw [Bool.eq_false_iff]; intro hc; simp at hc h2; omega
        have a12 : (n.op == 12) = false := by rw [Bool.eq_false_iff]; intro hc; simp at hc h2; omega
        have a39 : (n.op == 39) = false := by rw [Bool.eq_false_iff]; intro hc; simp at hc h2; omega
        rw [h1', h2, a3, a12, a39]; simp
      · have h2' : (n.op == 54) = false := by simpa using h2
        rw [h1', h2']
        cases (n.op == 3) <;> cases (n.op == 12) <;> cases (n.op == 39) <;> simp
  have hfl : (fun k => okS k (d || n.op == 12) (fd || n.op == 39) (true || n.op == 54)) = fun k => okS k (d || n.op == 12) (fd || n.op == 39) true := by funext k; rw [Bool.true_or]
  rw [hfl, hst]
  by_cases h54 : (n.op == 54) = true
  · have a3 : (n.op == 3) = false := by rw [Bool.eq_false_iff]; intro hc; simp at hc h54; omega
    have a12 : (n.op == 12) = false := by rw [Bool.eq_false_iff]; intro hc; simp at hc h54; omega
    have a39 : (n.op == 39) = false := by rw [Bool.eq_false_iff]; intro hc; simp at hc h54; omega
    simp only [a12, a39, Bool.or_false] at hk
    simp only [h54, a3, a12, a39, Bool.or_true, Bool.or_false, Bool.not_false, Bool.and_true, Bool.false_or, hk]
    cases numC n <;> cases nameC n <;> cases stC n d fd false <;> cases ((n.kids.map fun x => sortS x.op) == sortsC n) <;> cases (n.kids.all fun k => okS k d fd false) <;> cases n.kids.any primS <;> cases lastC n <;> rfl
  · have h54' : (n.op == 54) = false := by simpa using h54
    rw [h54', hk]
    simp only [Bool.or_false]
    cases numC n <;> cases nameC n <;> cases stC n d fd false <;> cases ((n.kids.map fun x => sortS x.op) == sortsC n) <;> cases (n.kids.all fun k => okS k (d || n.op == 12) (fd || n.op == 39) false) <;> cases n.kids.any primS <;> cases lastC n <;> cases (n.op == 3 || (n.op == 12 || n.op == 39)) <;> rfl
theorem Natural_eq {K : Nat} {r : RatA} (hw : r.words) : ∃ z, r08_Natural K r 20 = some z ∧ decide (0 ≤ z) = (((r.num.length : Int) == 0) || ((r.num.length : Int) == 1) && (r.num[0]?).all fun w => decide (w ≤ 20)) := by
  unfold r08_Natural
  by_cases h0 : r.num.length = 0
  · have e : ((r.num.length : Int) == 0) = true := by simp [h0]
    exact ⟨0, by rw [e]; rfl, by rw [e]; rfl⟩
  have e : ((r.num.length : Int) == 0) = false := int_ne0 h0
  have hx : r.num[0]? = some r.num[0] := List.getElem?_eq_getElem (by omega)
  have i0 : idx r.num 0 = some r.num[0] := by rw [← hx]; exact idx_nat (k := 0)
  have hb := hw.1 r.num[0] (List.getElem_mem (by omega))
  have ew : IntKind.wrap .i64 r.num[0] = r.num[0] := w64 (by omega) (by omega)
  simp only [e, Bool.false_eq_true, if_false, i0, hx, Option.bind_some, ew, Option.all_some, Bool.false_or]
  by_cases h1 : r.num.length = 1
  · have e1 : decide ((1 : Int) < (r.num.length : Int)) = false := by simp; omega
    have e2 : ((r.num.length : Int) == 1) = true := by simp [h1]
    simp only [e1, e2, Bool.false_eq_true, if_false, Option.bind_some, Bool.true_and]
    by_cases h2 : r.num[0] ≤ 20
    · have e3 : decide ((20 : Int) < r.num[0]) = false := by simp; omega
      refine ⟨r.num[0], by rw [e3]; rfl, ?_⟩
      rw [decide_eq_true h2, decide_eq_true hb.1]
    · have e3 : decide ((20 : Int) < r.num[0]) = true := by simp; omega
      refine ⟨-1, by rw [e3]; rfl, ?_⟩
      rw [decide_eq_false h2]; rfl
  · have e1 : decide ((1 : Int) < (r.num.length : Int)) = true := by simp; omega
    have e2 : ((r.num.length : Int) == 1) = false := by simp; omega
    refine ⟨-1, by rw [e1]; rfl, ?_⟩
    rw [e2]; rfl
theorem flow_eq {n : NodeA} (h54 : n.op = 54) (t f : Bool) :
    (decide (2 ≤ n.kids.length) && (!n.kids.any primS && ((n.kids[n.kids.length - 1]?).all (fun x => sortS x.op == 2 && okS x t f false) && (List.range (n.kids.length - 1)).all fun i => (n.kids[i]?).all fun x =>
      !(x.op == 56 && decide ((i : Int) < ((n.kids.length - 2 : Nat) : Int)) || (x.op != 56 && x.op != 55 || !(sortS x.op == 4 && okS x t f false))) && (n.kids.take i).all fun y => !(x.op == 55 && y.name.toList == x.name.toList)))) =
    (stC n t f false && ((n.kids.map fun x => sortS x.op) == sortsC n && n.kids.all fun k => okS k t f true)) := by
  have e1 : (n.op == 10 || n.op == 37) = false := by rw [h54]; rfl
  have e2 : (n.op == 54) = true := by rw [h54]; rfl
  unfold stC sortsC
  rw [e1, e2]
  simp only [Bool.false_eq_true, if_false, if_true]
  by_cases h2 : 2 ≤ n.kids.length
  · rw [decide_eq_true h2, Bool.true_and, Bool.true_and, Bool.eq_iff_iff]
    have hl : n.kids.length - 1 < n.kids.length := by omega
    rw [List.getElem?_eq_getElem hl, Option.all_some]
    simp only [Bool.and_eq_true, List.all_eq_true, Bool.not_eq_true', List.any_eq_false, List.mem_range, okS_fl]
    have hget : ∀ i (hi : i < n.kids.length), n.kids[i]? = some n.kids[i] := fun i hi => List.getElem?_eq_getElem hi
    have hmap : ((n.kids.map fun x => sortS x.op) == List.replicate (n.kids.length - 1) 4 ++ [2]) = true ↔ (sortS n.kids[n.kids.length - 1].op = 2 ∧ ∀ i (hi : i < n.kids.length - 1), sortS (n.kids[i]'(by omega)).op = 4) := by
      rw [beq_iff_eq]
      constructor
      · intro h
        have hg : ∀ i (hi : i < n.kids.length), sortS n.kids[i].op = (List.replicate (n.kids.length - 1) (4 : Int) ++ [2])[i]'(by simp; omega) := fun i hi => by
          have : (n.kids.map fun x => sortS x.op)[i]'(by simpa using hi) = sortS n.kids[i].op := by simp
          rw [← this]
          congr 1
        refine ⟨?_, fun i hi => ?_⟩
        · rw [hg _ hl, List.getElem_append_right (by simp)]; simp
        · rw [hg i (by omega), List.getElem_append_left (by simpa using hi)]; simp
      · rintro ⟨h3, h4⟩
        refine List.ext_getElem (by simp; omega) fun i hi1 hi2 => ?_
        rw [List.getElem_map]
        by_cases hi : i < n.kids.length - 1
        · rw [List.getElem_append_left (by simpa using hi), List.getElem_replicate]; exact h4 i hi
        · have : i = n.kids.length - 1 := by simp at hi1; omega
          subst this
          rw [List.getElem_append_right (by simp)]; simpa using h3
    rw [hmap]
    constructor
    · rintro ⟨hp, ⟨hs, ho⟩, hall⟩
      have at' : ∀ i (hi : i < n.kids.length - 1), (!(n.kids[i].op == 56 && decide ((i : Int) < ((n.kids.length - 2 : Nat) : Int)) || (n.kids[i].op != 56 && n.kids[i].op != 55 || !(sortS n.kids[i].op == 4 && okS n.kids[i] t f false)))) = true ∧ ∀ y ∈ n.kids.take i, (n.kids[i].op == 55 && y.name.toList == n.kids[i].name.toList) = false := fun i hi => by
        have := hall i hi
        rw [hget i (by omega), Option.all_some] at this
        simpa only [Bool.and_eq_true, List.all_eq_true, Bool.not_eq_true'] using this
      refine ⟨fun i hi => ?_, ⟨by simpa using hs, fun i hi => ?_⟩, fun x hx => ?_⟩
      · obtain ⟨h3, h4⟩ := at' i hi
        unfold flowK
        rw [hget i (by omega), Option.all_some, Bool.and_eq_true]
        refine ⟨?_, ?_⟩
        · simp at h3 ⊢; omega
        · simp only [List.all_eq_true, Bool.not_eq_true']; exact h4
      · obtain ⟨h3, _⟩ := at' i hi
        simp at h3; exact h3.2.2.1
      · obtain ⟨i, hi, rfl⟩ := List.mem_iff_getElem.1 hx
        refine ⟨?_, by simpa using hp _ hx⟩
        by_cases hi' : i < n.kids.length - 1
        · obtain ⟨h3, _⟩ := at' i hi'
          simp at h3; exact h3.2.2.2
        · have : i = n.kids.length - 1 := by omega
          subst this; exact ho
    · rintro ⟨hf, ⟨hs, h4⟩, hk⟩
      refine ⟨fun x hx => by have := (hk x hx).2; simp [this], ⟨by simpa using hs, (hk _ (List.getElem_mem hl)).1⟩, fun i hi => ?_⟩
      have := hf i hi
      unfold flowK at this
      rw [hget i (by omega), Option.all_some] at this ⊢
      simp only [Bool.and_eq_true, List.all_eq_true, Bool.not_eq_true'] at this ⊢
      refine ⟨?_, this.2⟩
      have h5 := (hk _ (List.getElem_mem (show i < n.kids.length by omega))).1
      have h6 := h4 i hi
      have h7 := this.1
      simp at h7 ⊢
      refine ⟨by omega, by omega, h6, h5⟩
  · rw [decide_eq_false h2]; rfl
def kidV (n : NodeA) : ByteArray := if (n.op == 10 || n.op == 37) then (if ((n.kids.length : Int) == 1) then ⟨#[49]⟩ else kidB n.op) else kidB n.op
def digs (v : ByteArray) : List Int := v.toList.map fun c => (c.toNat : Int) - 48
def lastW (n : NodeA) : Bool := if n.op == 39 then (n.kids[0]?).all diffS else lastC n
theorem size_toList (v : ByteArray) : v.toList.length = v.size := by rw [bytes_toList]; exact Array.length_toList
theorem strAt_list {v : ByteArray} {i : Nat} (h : i < v.size) : ∃ c : UInt8, strAt v (i : Int) = some c ∧ v.toList[i]? = some c := by
  refine ⟨v[i], (strAt_get h).1, ?_⟩
  rw [bytes_toList, Array.getElem?_toList]
  exact Array.getElem?_eq_getElem h
theorem kidV_ok {n : NodeA} (hs : sortS n.op ≠ 0) : (∀ c ∈ (kidV n).toList, 48 ≤ c.toNat ∧ c.toNat ≤ 57) ∧ (∀ z ∈ digs (kidV n), z ≠ 0) := by
  have htab := tab hs
  have h1 : ∀ c ∈ (⟨#[49]⟩ : ByteArray).toList, c = 49 := by
    intro c hc; rw [bytes_toList] at hc; exact List.mem_singleton.1 hc
  have hk : ∀ z ∈ digs (kidB n.op), z ≠ 0 := by unfold digs; rw [htab.2.1]; exact htab.2.2.2.2.2.2.2
  unfold kidV
  split
  · split
    · refine ⟨fun c hc => by rw [h1 c hc]; decide, fun z hz => ?_⟩
      unfold digs at hz
      obtain ⟨c, hc, rfl⟩ := List.mem_map.1 hz
      rw [h1 c hc]; decide
    · exact ⟨htab.2.2.1, hk⟩
  · exact ⟨htab.2.2.1, hk⟩
theorem well_side {n : NodeA} {t f : Bool} (hs : sortS n.op ≠ 0) (h54 : (n.op == 54) = false) (hC : (t && n.op == 12 || (t || f) && n.op == 3) = false) (A : Bool) :
    (stC n t f false && ((n.kids.map fun x => sortS x.op) == sortsC n && (A && lastC n))) = ((n.kids.map fun x => sortS x.op) == digs (kidV n) && (A && lastW n)) := by
  have htab := tab hs
  by_cases h10 : (n.op == 10 || n.op == 37) = true
  · obtain ⟨hs0, hn0⟩ := htab.2.2.2.1 (by rw [h10]; rfl)
    have a39 : (n.op == 39) = false := by rw [Bool.eq_false_iff]; intro hc; simp at hc h10; omega
    have hk : digs (kidB n.op) = [] := by unfold digs; rw [htab.2.1, hs0]; rfl
    have e1 : stC n t f false = decide (n.kids.length ≤ 1) := by unfold stC; rw [if_pos h10]
    have e2 : sortsC n = List.replicate n.kids.length 1 := by unfold sortsC; rw [if_pos h10]
    have e3 : lastW n = lastC n := by unfold lastW; rw [a39]; rfl
    rw [e1, e2, e3]
    unfold kidV
    rw [if_pos h10]
    by_cases h1 : n.kids.length = 1
    · have : ((n.kids.length : Int) == 1) = true := by simp [h1]
      rw [this, if_pos rfl, h1]
      have : digs ⟨#[49]⟩ = [1] := by unfold digs; rw [bytes_toList]; rfl
      rw [this]; rfl
    · have : ((n.kids.length : Int) == 1) = false := by rw [beq_eq_false_iff_ne]; omega
      rw [this]
      simp only [Bool.false_eq_true, if_false, hk]
      by_cases h0 : n.kids.length = 0
      · rw [h0]; rfl
      · have e : decide (n.kids.length ≤ 1) = false := by simp; omega
        have : ((n.kids.map fun x => sortS x.op) == ([] : List Int)) = false := by
          rw [beq_eq_false_iff_ne]; intro hq; apply h0; simpa using congrArg List.length hq
        rw [e, this]; rfl
  · have h10' : (n.op == 10 || n.op == 37) = false := by simpa using h10
    have e2 : sortsC n = digs (kidV n) := by
      unfold sortsC kidV digs; rw [h10', h54]; exact htab.2.1.symm
    rw [e2]
    have e1 : stC n t f false = if n.op == 39 then !(((n.kids.length : Int) != 1) || !((n.kids[0]?).all diffS)) else true := by
      unfold stC
      rw [h10', h54]
      by_cases h3 : (n.op == 3) = true
      · have a39 : (n.op == 39) = false := by rw [Bool.eq_false_iff]; intro hc; simp at hc h3; omega
        have a12 : (n.op == 12) = false := by rw [Bool.eq_false_iff]; intro hc; simp at hc h3; omega
        rw [h3, a12] at hC
        rw [h3, a39]
        revert hC; cases t <;> cases f <;> simp
      · have h3' : (n.op == 3) = false := by simpa using h3
        by_cases h12 : (n.op == 12) = true
        · have a39 : (n.op == 39) = false := by rw [Bool.eq_false_iff]; intro hc; simp at hc h12; omega
          rw [h3', h12] at hC
          rw [h3', h12, a39]
          revert hC; cases t <;> simp
        · have h12' : (n.op == 12) = false := by simpa using h12
          rw [h3', h12']; simp
    rw [e1]
    by_cases h39 : (n.op == 39) = true
    · have hlast : lastC n = true := by
        unfold lastC
        have a8 : (n.op == 8) = false := by rw [Bool.eq_false_iff]; intro hc; simp at hc h39; omega
        have a9 : (n.op == 9) = false := by rw [Bool.eq_false_iff]; intro hc; simp at hc h39; omega
        rw [a8, a9]; rfl
      have hd : digs (kidV n) = [2] := by rw [← e2]; unfold sortsC; rw [h10', h54, htab.2.2.2.2.1 (by simpa using h39)]; rfl
      have e3 : lastW n = (n.kids[0]?).all diffS := by unfold lastW; rw [h39]; rfl
      rw [h39, hlast, e3, hd]
      simp only [if_true, Bool.and_true]
      cases hm : ((n.kids.map fun x => sortS x.op) == ([2] : List Int)) with
      | false => simp
      | true =>
        have hl : n.kids.length = 1 := by have := congrArg List.length (eq_of_beq hm); simpa using this
        have : ((n.kids.length : Int) != 1) = false := by simp [hl]
        rw [this]
        cases (n.kids[0]?).all diffS <;> cases A <;> rfl
    · have h39' : (n.op == 39) = false := by simpa using h39
      have e3 : lastW n = lastC n := by unfold lastW; rw [h39']; rfl
      rw [h39', e3]; rfl
theorem well_iter {K : Nat} (hK : 12 < K) : ∀ (k : Nat),
    (∀ (n : NodeA) (s : Int) (t f : Bool), 2 * n.size ≤ k → 2 * n.size ≤ K → n.size ≤ big → n.words → s ≠ 0 → (grp_r08_well K k).1 (n, s, t, f) = some (sortS n.op == s && okS n t f false)) ∧
    (∀ (n : NodeA) (t f : Bool), 2 * n.size ≤ k + 1 → 2 * n.size ≤ K → n.size ≤ big → n.words → n.op = 54 → (grp_r08_well K k).2 (n, t, f) = some (stC n t f false && ((n.kids.map fun x => sortS x.op) == sortsC n && n.kids.all fun k => okS k t f true))) := by
  intro k
  induction k with
  | zero => exact ⟨fun n s t f h => by have := n.size_pos; omega, fun n t f h => by have := n.size_pos; omega⟩
  | succ k ih =>
    obtain ⟨ih1, ih2⟩ := ih
    refine ⟨fun n s t f h hK2 hb hw hs => ?_, fun n t f h hK2 hb hw h54 => ?_⟩
    · show r08_well_body K (grp_r08_well K k).1 (grp_r08_well K k).2 n s t f = _
      generalize (grp_r08_well K k).1 = S1 at ih1 ⊢
      generalize (grp_r08_well K k).2 = S2 at ih2 ⊢
      have hl := n.kids_lt
      have hbig : n.size ≤ 1099511627776 := hb
      unfold r08_well_body
      simp only [r08_Sort_eq, r08_named_eq, r08_Name_eq hK, Option.bind_some]
      by_cases hsort : sortS n.op = s
      · subst hsort
        have htab := tab hs
        have e0 : (sortS n.op != sortS n.op) = false := by simp
        have e0' : (sortS n.op == sortS n.op) = true := by simp
        rw [e0, e0', Bool.true_and, okS_eq]
        simp only [Bool.false_eq_true, if_false]
        refine ob (if nameC n then .go () else .out false) ?_ ?_
        · unfold nameC
          rw [htab.1]
          have hem : ((n.name.toList == (⟨#[]⟩ : ByteArray).toList) = true → nameB n.name = false) := emptyB_name
          have hem' : (n.name.toList == (⟨#[]⟩ : ByteArray).toList) = emptyB n.name := rfl
          rw [hem'] at hem ⊢
          revert hem
          cases (namedS n.op || (n.op == 10 || n.op == 37)) <;> cases nameB n.name <;> cases emptyB n.name <;> simp [outM]
        cases hB : nameC n with
        | false => simp [Out.fin]
        | true =>
        simp only [if_true, Out.fin_go]
        refine ob _ num_join' ?_
        cases hA : numC n with
        | false => rfl
        | true =>
        simp only [if_true, Out.fin_go, Bool.true_and]
        refine ob (if !(t && n.op == 12 || (t || f) && n.op == 3) then .go () else .out false) ?_ ?_
        · cases t <;> cases f <;> cases (n.op == 12) <;> cases (n.op == 3) <;> rfl
        by_cases hC : (t && n.op == 12 || (t || f) && n.op == 3) = true
        · have : stC n t f false = false := by
            unfold stC
            have h12 : (n.op == 12) = true ∨ (n.op == 3) = true := by
              revert hC; cases t <;> cases f <;> cases (n.op == 12) <;> cases (n.op == 3) <;> simp
            have a10 : (n.op == 10 || n.op == 37) = false := by rw [Bool.eq_false_iff]; intro hc; simp at hc h12; omega
            have a54 : (n.op == 54) = false := by rw [Bool.eq_false_iff]; intro hc; simp at hc h12; omega
            rw [a10, a54]
            rcases h12 with h12 | h12
            · have a3 : (n.op == 3) = false := by rw [Bool.eq_false_iff]; intro hc; simp at hc h12; omega
              rw [h12, a3] at hC ⊢
              revert hC; cases t <;> cases f <;> simp
            · have a12 : (n.op == 12) = false := by rw [Bool.eq_false_iff]; intro hc; simp at hc h12; omega
              rw [h12, a12] at hC ⊢
              revert hC; cases t <;> cases f <;> simp
          rw [hC, this]; rfl
        have hC' : (t && n.op == 12 || (t || f) && n.op == 3) = false := by simpa using hC
        rw [hC']
        simp only [Bool.not_false, if_true, Out.fin_go]
        by_cases h54 : (n.op == 54) = true
        · have a12 : (n.op == 12) = false := by rw [Bool.eq_false_iff]; intro hc; simp at hc h54; omega
          have a39 : (n.op == 39) = false := by rw [Bool.eq_false_iff]; intro hc; simp at hc h54; omega
          have hlast : lastC n = true := by
            unfold lastC
            have a8 : (n.op == 8) = false := by rw [Bool.eq_false_iff]; intro hc; simp at hc h54; omega
            have a9 : (n.op == 9) = false := by rw [Bool.eq_false_iff]; intro hc; simp at hc h54; omega
            rw [a8, a9]; rfl
          rw [h54, a12, a39, hlast]
          simp only [if_true, Bool.or_false, Bool.or_true, Bool.and_true]
          rw [ih2 n t f (by omega) hK2 hb hw (by simpa using h54)]; rfl
        have h54' : (n.op == 54) = false := by simpa using h54
        simp only [h54', Bool.false_eq_true, if_false, r08_kids_eq, Option.bind_some, orO, Bool.or_false]
        rw [well_side hs h54' hC']
        obtain ⟨hv1, hv2⟩ := kidV_ok hs
        refine ob (kidV n) (by unfold kidV; cases (n.op == 10 || n.op == 37) <;> cases ((n.kids.length : Int) == 1) <;> rfl) ?_
        have hdl : (digs (kidV n)).length = (kidV n).size := by unfold digs; rw [List.length_map, size_toList]
        by_cases hlen : n.kids.length = (digs (kidV n)).length
        · have e : (((kidV n).size : Int) != (n.kids.length : Int)) = false := by rw [hlen, hdl]; simp
          simp only [e, Bool.false_eq_true, if_false]
          refine ob (if ((n.kids.map fun x => sortS x.op) == digs (kidV n) && n.kids.all (fun k => okS k (t || n.op == 12) (f || n.op == 39) false)) then .go () else .out false) ?_ ?_
          · rw [← map_eq hlen (fun k => okS k (t || n.op == 12) (f || n.op == 39) false)]
            refine scanG n.kids.length (fun i => (i : Int)) _ false () (fun g i hi => ?_) (fun g => ?_) (by omega) rfl
            · have hx : n.kids[i]? = some n.kids[i] := List.getElem?_eq_getElem hi
              have hm := List.getElem_mem hi
              have hs' := NodeA.size_lt hm
              have hbk : n.kids[i].size ≤ big := by unfold big; omega
              obtain ⟨c, hc1, hc2⟩ := strAt_list (v := kidV n) (i := i) (by omega)
              have hcm := hv1 c (List.mem_of_getElem? hc2)
              have hy : (digs (kidV n))[i]? = some ((c.toNat : Int) - 48) := by unfold digs; rw [List.getElem?_map, hc2]; rfl
              have hy0 := hv2 _ (List.mem_of_getElem? hy)
              have hd : decide ((i : Int) < ((kidV n).size : Int)) = true := by simp; omega
              have e1 : IntKind.wrap .i64 (IntKind.wrap .u8 ((c.toNat : Int) - 48)) = (c.toNat : Int) - 48 := by
                have : IntKind.wrap .u8 ((c.toNat : Int) - 48) = (c.toNat : Int) - 48 := by
                  simp only [IntKind.wrap, IntKind.bits, IntKind.signed, Bool.false_and]
                  simp; omega
                rw [this, w64 (by omega) (by omega)]
              simp only [hd, if_true, idx_nat, hx, hc1, hy, Option.bind_some, e1, Option.all_some]
              generalize (c.toNat : Int) - 48 = z at hy0
              have ih' : ∀ a b, S1 (n.kids[i], z, a, b) = some (sortS n.kids[i].op == z && okS n.kids[i] a b false) := fun a b => ih1 n.kids[i] z a b (by omega) (by omega) hbk (NodeA.words_kid hw hm) hy0
              simp only [ih', Option.bind_some]
              rw [w64s (by omega)]
              have e2 : (sortS n.kids[i].op != z) = !(sortS n.kids[i].op == z) := rfl
              rw [e2]
              cases t <;> cases f <;> simp only [Bool.false_eq_true, if_false, if_true, Bool.false_or, Bool.true_or, Bool.not_not] <;> cases (sortS n.kids[i].op == z) <;> (try rfl) <;> generalize okS n.kids[i] _ _ false = q <;> cases q <;> rfl
            · have hd : decide ((n.kids.length : Int) < ((kidV n).size : Int)) = false := by simp; omega
              simp only [hd, Bool.false_eq_true, if_false]
          · rw [← Bool.and_assoc ((n.kids.map fun x => sortS x.op) == digs (kidV n))]
            cases hD : ((n.kids.map fun x => sortS x.op) == digs (kidV n) && n.kids.all (fun k => okS k (t || n.op == 12) (f || n.op == 39) false)) with
            | false => rfl
            | true =>
              simp only [if_true, Out.fin_go, Bool.true_and]
              have hmap : (n.kids.map fun x => sortS x.op) = digs (kidV n) := by
                revert hD; cases hq : ((n.kids.map fun x => sortS x.op) == digs (kidV n)) with
                | false => simp
                | true => intro _; exact eq_of_beq hq
              unfold lastW
              by_cases h89 : (n.op == 8 || n.op == 9) = true
              · have a10 : (n.op == 10 || n.op == 37) = false := by rw [Bool.eq_false_iff]; intro hc; simp at hc h89; omega
                have a39 : (n.op == 39) = false := by rw [Bool.eq_false_iff]; intro hc; simp at hc h89; omega
                have h2 : n.kids.length = 2 := by
                  rw [hlen]; unfold kidV digs
                  rw [a10]
                  simp only [Bool.false_eq_true, if_false]
                  rw [htab.2.1, htab.2.2.2.2.2.1 h89]; rfl
                have hx : n.kids[1]? = some n.kids[1] := List.getElem?_eq_getElem (by omega)
                have i1 : idx n.kids 1 = some n.kids[1] := by rw [← hx]; exact idx_nat (k := 1)
                have hwk := NodeA.words_num (NodeA.words_kid hw (List.getElem_mem (show 1 < n.kids.length by omega)))
                obtain ⟨z, hz1, hz2⟩ := Natural_eq (K := K) hwk
                unfold lastC
                simp only [i1, hx, Option.bind_some, Option.all_some, hz1, hz2, a39, Bool.false_eq_true, if_false]
                cases (n.op == 8) with
                | true => cases (n.kids[1].op == 1) <;> rfl
                | false =>
                  cases (n.op == 9) with
                  | false => rfl
                  | true => cases (n.kids[1].op == 1) <;> rfl
              · have h8 : (n.op == 8) = false := by revert h89; cases (n.op == 8) <;> simp
                have h9 : (n.op == 9) = false := by revert h89; cases (n.op == 9) <;> simp
                unfold lastC
                rw [h8, h9]
                by_cases h39 : (n.op == 39) = true
                · have a10 : (n.op == 10 || n.op == 37) = false := by rw [Bool.eq_false_iff]; intro hc; simp at hc h39; omega
                  have h1 : n.kids.length = 1 := by
                    rw [hlen]; unfold kidV digs
                    rw [a10]
                    simp only [Bool.false_eq_true, if_false]
                    rw [htab.2.1, htab.2.2.2.2.1 (by simpa using h39)]; rfl
                  have hx : n.kids[0]? = some n.kids[0] := List.getElem?_eq_getElem (by omega)
                  have i0 : idx n.kids 0 = some n.kids[0] := by rw [← hx]; exact idx_nat (k := 0)
                  have hs0 := NodeA.size_lt (List.getElem_mem (show 0 < n.kids.length by omega))
                  simp only [h39, Bool.false_eq_true, if_false, if_true, i0, hx, Option.bind_some, Option.all_some, r08_differential_eq (show n.kids[0].size ≤ K by omega) (show n.kids[0].size ≤ 4611686018427387904 by omega)]
                · have h39' : (n.op == 39) = false := by simpa using h39
                  rw [h39']; rfl
        · have e : (((kidV n).size : Int) != (n.kids.length : Int)) = true := by rw [← hdl]; simp; omega
          have e2 : ((n.kids.map fun x => sortS x.op) == digs (kidV n)) = false := by
            rw [beq_eq_false_iff_ne]; intro hq; apply hlen; rw [← hq]; simp
          rw [e, e2]; rfl
      · have e0 : (sortS n.op != s) = true := by simpa using hsort
        have e1 : (sortS n.op == s) = false := by simpa using hsort
        rw [e0, e1]; rfl
    · show r08_flow_body K (grp_r08_well K k).1 (grp_r08_well K k).2 n t f = _
      generalize (grp_r08_well K k).1 = S1 at ih1 ⊢
      generalize (grp_r08_well K k).2 = S2 at ih2 ⊢
      rw [← flow_eq h54]
      have hl := n.kids_lt
      have hbig : n.size ≤ 1099511627776 := hb
      have hprim : primS n = n.kids.any primS := by rw [primS_eq, h54]; rfl
      unfold r08_flow_body
      by_cases h2 : 2 ≤ n.kids.length
      · have hd : decide ((n.kids.length : Int) < 2) = false := by simp; omega
        have e3 : IntKind.wrap .i64 ((n.kids.length : Int) - 1) = ((n.kids.length - 1 : Nat) : Int) := by rw [w64 (by omega) (by omega)]; omega
        have e4 : IntKind.wrap .i64 ((n.kids.length : Int) - 2) = ((n.kids.length - 2 : Nat) : Int) := by rw [w64 (by omega) (by omega)]; omega
        have hx : n.kids[n.kids.length - 1]? = some n.kids[n.kids.length - 1] := List.getElem?_eq_getElem (by omega)
        have hm : n.kids[n.kids.length - 1] ∈ n.kids := List.getElem_mem (by omega)
        have hsz := NodeA.size_lt hm
        simp only [hd, Bool.false_eq_true, if_false, r08_primed_eq (show n.size ≤ K by omega) (show n.size ≤ 4611686018427387904 by omega), Option.bind_some, e3, e4, idx_nat, hx,
          ih1 n.kids[n.kids.length - 1] 2 t f (by omega) (by omega) (by unfold big; omega) (NodeA.words_kid hw hm) (by omega), decide_eq_true h2, Bool.true_and, Option.all_some, hprim]
        cases hp : n.kids.any primS with
        | true => rfl
        | false =>
        simp only [Bool.false_eq_true, if_false, Bool.not_false, Bool.true_and, Option.bind_some]
        cases hlast : (sortS n.kids[n.kids.length - 1].op == 2 && okS n.kids[n.kids.length - 1] t f false) with
        | false => rfl
        | true =>
        simp only [Bool.not_true, Bool.false_eq_true, if_false, Option.bind_some, Out.fin_go, Bool.true_and]
        refine ob _ (scanG (n.kids.length - 1) (fun i => (i : Int)) (fun i => (n.kids[i]?).all fun (x : NodeA) =>
      !(x.op == 56 && decide ((i : Int) < ((n.kids.length - 2 : Nat) : Int)) || (x.op != 56 && x.op != 55 || !(sortS x.op == 4 && okS x t f false))) && (n.kids.take i).all fun y => !(x.op == 55 && y.name.toList == x.name.toList)) false () (fun g i hi => ?_) (fun g => ?_) (by omega) rfl) ?_
        · have hi' : i < n.kids.length := by omega
          have hx : n.kids[i]? = some n.kids[i] := List.getElem?_eq_getElem hi'
          have hm := List.getElem_mem hi'
          have hs' := NodeA.size_lt hm
          have hbk : n.kids[i].size ≤ big := by unfold big; omega
          have hd : decide ((i : Int) < ((n.kids.length - 1 : Nat) : Int)) = true := by simp; omega
          have e56 : (n.kids[i].op != 56) = !(n.kids[i].op == 56) := rfl
          have e55 : (n.kids[i].op != 55) = !(n.kids[i].op == 55) := rfl
          simp only [hd, if_true, idx_nat, hx, Option.bind_some, ih1 n.kids[i] 4 t f (by omega) (by omega) hbk (NodeA.words_kid hw hm) (by omega), Option.all_some]
          rw [w64s (by omega)]
          refine ob (if (!(n.kids[i].op == 56 && decide ((i : Int) < ((n.kids.length - 2 : Nat) : Int)) || (n.kids[i].op != 56 && n.kids[i].op != 55 || !(sortS n.kids[i].op == 4 && okS n.kids[i] t f false))) && (n.kids.take i).all fun y => !(n.kids[i].op == 55 && y.name.toList == n.kids[i].name.toList)) then .go () else .out (.out false)) ?_ ?_
          · refine ob (if !(n.kids[i].op == 56 && decide ((i : Int) < ((n.kids.length - 2 : Nat) : Int)) || (n.kids[i].op != 56 && n.kids[i].op != 55 || !(sortS n.kids[i].op == 4 && okS n.kids[i] t f false))) then .go () else .out (.out (.out false))) ?_ ?_
            · rw [e56, e55]
              cases (n.kids[i].op == 56) <;> cases decide ((i : Int) < ((n.kids.length - 2 : Nat) : Int)) <;> cases (n.kids[i].op == 55) <;> cases (sortS n.kids[i].op == 4 && okS n.kids[i] t f false) <;> rfl
            · cases (n.kids[i].op == 56 && decide ((i : Int) < ((n.kids.length - 2 : Nat) : Int)) || (n.kids[i].op != 56 && n.kids[i].op != 55 || !(sortS n.kids[i].op == 4 && okS n.kids[i] t f false))) with
              | true => rfl
              | false =>
                simp only [Bool.not_false, if_true, Out.fin_go, Bool.true_and]
                have hti : (n.kids.take i).length = i := by rw [List.length_take]; omega
                refine ob _ (scanG (n.kids.take i).length (fun j => (j : Int)) (fun j => ((n.kids.take i)[j]?).all fun y => !(n.kids[i].op == 55 && y.name.toList == n.kids[i].name.toList)) (.out (.out false)) () (fun g' j hj => ?_) (fun g' => ?_) (by omega) rfl) ?_
                · have hy : (n.kids.take i)[j]? = some (n.kids.take i)[j] := List.getElem?_eq_getElem hj
                  have hy' : n.kids[j]? = some (n.kids.take i)[j] := by rw [← hy, List.getElem?_take, if_pos (by omega)]
                  have hd : decide ((j : Int) < (i : Int)) = true := by simp; omega
                  simp only [hd, if_true, idx_nat, hy, hy', Option.bind_some, andO, Option.all_some]
                  rw [w64s (by omega)]
                  cases (n.kids[i].op == 55 && (n.kids.take i)[j].name.toList == n.kids[i].name.toList) <;> rfl
                · have hd : decide (((n.kids.take i).length : Int) < (i : Int)) = false := by rw [hti]; simp
                  simp only [hd, Bool.false_eq_true, if_false]
                · rw [range_all]
                  cases ((n.kids.take i).all fun y => !(n.kids[i].op == 55 && y.name.toList == n.kids[i].name.toList)) <;> rfl
          · cases (!(n.kids[i].op == 56 && decide ((i : Int) < ((n.kids.length - 2 : Nat) : Int)) || (n.kids[i].op != 56 && n.kids[i].op != 55 || !(sortS n.kids[i].op == 4 && okS n.kids[i] t f false))) && (n.kids.take i).all fun y => !(n.kids[i].op == 55 && y.name.toList == n.kids[i].name.toList)) <;> rfl
        · have hd : decide (((n.kids.length - 1 : Nat) : Int) < ((n.kids.length - 1 : Nat) : Int)) = false := by simp
          simp only [hd, Bool.false_eq_true, if_false]
        · cases ((List.range (n.kids.length - 1)).all fun i => (n.kids[i]?).all fun x =>
      !(x.op == 56 && decide ((i : Int) < ((n.kids.length - 2 : Nat) : Int)) || (x.op != 56 && x.op != 55 || !(sortS x.op == 4 && okS x t f false))) && (n.kids.take i).all fun y => !(x.op == 55 && y.name.toList == x.name.toList)) <;> rfl
      · have hd : decide ((n.kids.length : Int) < 2) = true := by simp; omega
        rw [hd, decide_eq_false h2]; rfl
end Go.Proofs.YtngmfimpaembnaaGreatDoor
namespace Go.Proofs.YtngmfimpaembnaaGreatDoor
open Go Go.Iso Go.Proofs
set_option linter.unusedSimpArgs false
set_option linter.unusedVariables false
set_option maxRecDepth 100000
/-! ### Check -/
def checkS (n : NodeA) (s : Int) : Int :=
  if decide (s < 1) || decide (3 < s) then 1 else if decide ((n.size : Int) ≤ 4000) && decide ((n.lev : Int) ≤ 60) then (if sortS n.op != s then 80 else if !okS n false false false then 3 else 0) else 2
theorem tree_Check_eq {K : Nat} {n : NodeA} {s : Int} (hK : 12 < K) (hK2 : 2 * n.size ≤ K) (hb : n.size ≤ big) : tree_Check K n s = some (checkS n s) := by
  unfold tree_Check checkS
  simp only [orO, Option.bind_some]
  cases hs : (decide (s < 1) || decide (3 < s)) with
  | true => rfl
  | false =>
    simp only [Bool.false_eq_true, if_false, Option.bind_some, Out.fin_go]
    obtain ⟨r, hr, hw⟩ := tree_within_eq (show n.size ≤ K by omega) hb
    rw [hr]
    simp only [Option.bind_some]
    unfold Within at hw
    by_cases hc : (n.size : Int) ≤ 4000 ∧ (n.lev : Int) ≤ 60
    · rw [if_pos hc] at hw
      subst hw
      rw [decide_eq_true hc.1, decide_eq_true hc.2]
      simp only [Bool.not_true, Bool.false_eq_true, if_false, tree_Sort_eq, Option.bind_some, Bool.and_self, if_true]
      by_cases h2 : sortS n.op = s
      · have e : (sortS n.op != s) = false := by simp [h2]
        have h0 : sortS n.op ≠ 0 := by rw [h2]; intro hz; subst hz; revert hs; decide
        rw [e]
        simp only [Bool.false_eq_true, if_false]
        have : tree_formed K n (Tree_placeA.mk false false false) = some (okS n false false false) := formed_iter hK K n ⟨false, false, false⟩ (by omega) (by omega) hb h0
        rw [this]
        simp only [Option.bind_some]
        cases okS n false false false <;> rfl
      · have e : (sortS n.op != s) = true := by simp [h2]
        rw [e]; rfl
    · rw [if_neg hc] at hw
      rw [hw]
      have : (decide ((n.size : Int) ≤ 4000) && decide ((n.lev : Int) ≤ 60)) = false := by
        rw [Bool.and_eq_false_iff, decide_eq_false_iff_not, decide_eq_false_iff_not]
        by_cases h1 : (n.size : Int) ≤ 4000
        · exact .inr fun h2 => hc ⟨h1, h2⟩
        · exact .inl h1
      rw [this]; rfl
theorem r08_well_eq {K : Nat} {n : NodeA} {s : Int} (hK : 12 < K) (hK2 : 2 * n.size ≤ K) (hb : n.size ≤ big) (hw : n.words) (hs : s ≠ 0) : r08_well K n s false false = some (sortS n.op == s && okS n false false false) :=
  (well_iter hK K).1 n s false false hK2 hK2 hb hw hs
theorem r08_Check_eq {K : Nat} {n : NodeA} {s : Int} (hK : 12 < K) (hK2 : 2 * n.size ≤ K) (hb : n.size ≤ big) (hw : n.words) : r08_Check K n s = some (checkS n s) := by
  unfold r08_Check checkS
  simp only [orO, Option.bind_some]
  cases hs : (decide (s < 1) || decide (3 < s)) with
  | true => rfl
  | false =>
    simp only [Bool.false_eq_true, if_false, r08_Size_eq (show n.size ≤ K by omega) hb, r08_Levels_eq (show n.size ≤ K by omega) hb, Option.bind_some, orO]
    by_cases hc : (n.size : Int) ≤ 4000 ∧ (n.lev : Int) ≤ 60
    · have e1 : decide ((4000 : Int) < (n.size : Int)) = false := by simp; omega
      have e2 : decide ((60 : Int) < (n.lev : Int)) = false := by simp; omega
      rw [e1, e2, decide_eq_true hc.1, decide_eq_true hc.2]
      simp only [Bool.or_self, Bool.false_eq_true, if_false, r08_Sort_eq, Option.bind_some, Bool.and_self, if_true]
      by_cases h2 : sortS n.op = s
      · have e : (sortS n.op != s) = false := by simp [h2]
        have e' : (sortS n.op == s) = true := by simp [h2]
        have h0 : s ≠ 0 := by intro hz; subst hz; revert hs; decide
        rw [e]
        simp only [Bool.false_eq_true, if_false, r08_well_eq hK hK2 hb hw h0, Option.bind_some, e', Bool.true_and]
        cases okS n false false false <;> rfl
      · have e : (sortS n.op != s) = true := by simp [h2]
        rw [e]; rfl
    · have : (decide ((n.size : Int) ≤ 4000) && decide ((n.lev : Int) ≤ 60)) = false := by
        rw [Bool.and_eq_false_iff, decide_eq_false_iff_not, decide_eq_false_iff_not]
        by_cases h1 : (n.size : Int) ≤ 4000
        · exact .inr fun h2 => hc ⟨h1, h2⟩
        · exact .inl h1
      have e : (decide ((4000 : Int) < (n.size : Int)) || decide ((60 : Int) < (n.lev : Int))) = true := by
        rw [Bool.or_eq_true, decide_eq_true_eq, decide_eq_true_eq]
        by_cases h1 : (n.size : Int) ≤ 4000
        · exact .inr (by have : ¬ (n.lev : Int) ≤ 60 := fun h2 => hc ⟨h1, h2⟩; omega)
        · exact .inl (by omega)
      rw [this, e]; rfl
def rootS (n : NodeA) : Int := if sortS n.op == 0 || sortS n.op == 4 then 80 else checkS n (sortS n.op)
theorem rootS_ok {n : NodeA} (h : rootS n = 0) : okS n false false false = true ∧ sortS n.op ≠ 0 := by
  unfold rootS at h
  cases hs : (sortS n.op == 0 || sortS n.op == 4) with
  | true => rw [hs] at h; cases h
  | false =>
    rw [hs] at h
    simp only [Bool.false_eq_true, if_false] at h
    have h0 : sortS n.op ≠ 0 := by intro hz; rw [hz] at hs; revert hs; decide
    refine ⟨?_, h0⟩
    unfold checkS at h
    revert h
    cases (decide (sortS n.op < 1) || decide (3 < sortS n.op)) <;> cases (decide ((n.size : Int) ≤ 4000) && decide ((n.lev : Int) ≤ 60)) <;> cases hq : (sortS n.op != sortS n.op) <;> cases okS n false false false <;> simp
/-! ### Nodes -/
def Fine (n : NodeA) : Prop := ∃ d fd fl, okS n d fd fl = true
theorem fine_kid {n k : NodeA} (h : Fine n) (hk : k ∈ n.kids) : Fine k := by
  obtain ⟨d, fd, fl, h⟩ := h
  rw [okS_eq] at h
  simp only [Bool.and_eq_true, List.all_eq_true] at h
  exact ⟨_, _, _, h.2.2.2.2.1 k hk⟩
end Go.Proofs.YtngmfimpaembnaaGreatDoor
namespace Go.Proofs.YtngmfimpaembnaaGreatDoor
open Go Go.Iso Go.Proofs
set_option linter.unusedSimpArgs false
set_option linter.unusedVariables false
set_option maxRecDepth 100000
/-! ### Exchanged names -/
def varOp (op : Int) : Bool := op == 2 || (op == 3 || (op == 50 || (op == 51 || (op == 52 || (op == 55 || (op == 33 || op == 34))))))
theorem rename_variable_eq {K : Nat} {op : Int} : rename_variable K op = some (varOp op) := by
  unfold rename_variable varOp
  simp only [orO', Option.bind_some]
  cases (op == 2 || (op == 3 || (op == 50 || (op == 51 || (op == 52 || (op == 55 || (op == 33 || op == 34))))))) <;> rfl
theorem r18_variable_eq {K : Nat} {op : Int} : r18_variable K op = some (varOp op) := by
  unfold r18_variable varOp
  simp only [orO', Option.bind_some]
  cases (op == 2 || (op == 3 || (op == 50 || (op == 51 || (op == 52 || (op == 55 || (op == 33 || op == 34))))))) <;> rfl
theorem varOp_iff {op : Int} : varOp op = true ↔ op = 2 ∨ op = 3 ∨ op = 50 ∨ op = 51 ∨ op = 52 ∨ op = 55 ∨ op = 33 ∨ op = 34 := by
  unfold varOp; simp only [Bool.or_eq_true, beq_iff_eq]
theorem varOp_named {op : Int} (h : varOp op = true) : namedS op = true := by
  rcases varOp_iff.1 h with rfl | rfl | rfl | rfl | rfl | rfl | rfl | rfl <;> decide +kernel
theorem eqB {a b : ByteArray} : (a.toList == b.toList) = true ↔ a = b := by
  rw [beq_iff_eq]; exact ⟨fun h => toList_inj h, fun h => by rw [h]⟩
theorem neB {a b : ByteArray} (h : a ≠ b) : (a.toList == b.toList) = false := by
  cases e : a.toList == b.toList with
  | false => rfl
  | true => exact absurd (eqB.1 e) h
def swB (x y s : ByteArray) : ByteArray := if s.toList == x.toList then y else if s.toList == y.toList then x else s
theorem swB_x {x y : ByteArray} : swB x y x = y := by unfold swB; rw [if_pos (eqB.2 rfl)]
theorem swB_y {x y : ByteArray} : swB x y y = x := by
  unfold swB
  by_cases h : y = x
  · subst h; rw [if_pos (eqB.2 rfl)]
  · rw [if_neg (by rw [neB h]; simp), if_pos (eqB.2 rfl)]
theorem swB_o {x y s : ByteArray} (h1 : s ≠ x) (h2 : s ≠ y) : swB x y s = s := by
  unfold swB; rw [if_neg (by rw [neB h1]; simp), if_neg (by rw [neB h2]; simp)]
theorem swB_swB {x y s : ByteArray} : swB x y (swB x y s) = s := by
  by_cases h1 : s = x
  · subst h1; rw [swB_x, swB_y]
  · by_cases h2 : s = y
    · subst h2; rw [swB_y, swB_x]
    · rw [swB_o h1 h2, swB_o h1 h2]
theorem swB_inj {x y s t : ByteArray} (h : swB x y s = swB x y t) : s = t := by
  have := congrArg (swB x y) h; rwa [swB_swB, swB_swB] at this
theorem swB_name {x y s : ByteArray} (hx : nameB x = true) (hy : nameB y = true) (hs : nameB s = true) : nameB (swB x y s) = true := by
  unfold swB; split
  · exact hy
  · split
    · exact hx
    · exact hs
theorem rename_uniform_1_eq {K : Nat} {x y s : ByteArray} : rename_uniform_1 K s x y = some (swB x y s) := by
  unfold rename_uniform_1 swB
  cases s.toList == x.toList <;> cases s.toList == y.toList <;> rfl
def exN (x y : ByteArray) (op : Int) (m : ByteArray) : ByteArray := if varOp op then swB x y m else m
def exS (x y : ByteArray) : NodeA → NodeA
  | .mk o m r ks => .mk o (exN x y o m) r (ks.attach.map fun ⟨k, _⟩ => exS x y k)
termination_by n => SizeOf.sizeOf n
decreasing_by exact NodeA.size_kid (by assumption)
section
variable {x y : ByteArray}
theorem exS_mk {o : Int} {m : ByteArray} {r : RatA} {ks : List NodeA} : exS x y (.mk o m r ks) = .mk o (exN x y o m) r (ks.map (exS x y)) := by
  rw [exS]; simp
theorem exS_op (n : NodeA) : (exS x y n).op = n.op := by cases n; rw [exS_mk]; rfl
theorem exS_name (n : NodeA) : (exS x y n).name = exN x y n.op n.name := by cases n; rw [exS_mk]; rfl
theorem exS_num (n : NodeA) : (exS x y n).num = n.num := by cases n; rw [exS_mk]; rfl
theorem exS_kids (n : NodeA) : (exS x y n).kids = n.kids.map (exS x y) := by cases n; rw [exS_mk]; rfl
theorem exS_size : ∀ n, (exS x y n).size = n.size := NodeA.ind fun n ih => by
  cases n with
  | mk o m r ks =>
    rw [exS_mk, NodeA.size_mk, NodeA.size_mk, List.map_map]
    have h2 : ks.map (NodeA.size ∘ exS x y) = ks.map NodeA.size := List.map_congr_left fun k hk => ih k hk
    rw [h2]
theorem exS_lev : ∀ n, (exS x y n).lev = n.lev := NodeA.ind fun n ih => by
  cases n with
  | mk o m r ks =>
    rw [exS_mk, NodeA.lev_mk, NodeA.lev_mk, List.map_map]
    have h2 : ks.map (NodeA.lev ∘ exS x y) = ks.map NodeA.lev := List.map_congr_left fun k hk => ih k hk
    rw [h2]
theorem exS_diff : ∀ n, diffS (exS x y n) = diffS n := NodeA.ind fun n ih => by
  rw [diffS_eq, diffS_eq n, exS_op, exS_kids, List.all_map]
  have : n.kids.all (diffS ∘ exS x y) = n.kids.all diffS := by
    rw [Bool.eq_iff_iff, List.all_eq_true, List.all_eq_true]
    exact ⟨fun h k hk => (ih k hk).symm.trans (h k hk), fun h k hk => (ih k hk).trans (h k hk)⟩
  rw [this]
/-! ### Form is kept -/
theorem exS_num_ok (n : NodeA) : numC (exS x y n) = numC n := by unfold numC; rw [exS_op, exS_num]
theorem exS_sorts (n : NodeA) : sortsC (exS x y n) = sortsC n := by unfold sortsC; rw [exS_op, exS_kids, List.length_map]
theorem exS_last (n : NodeA) : lastC (exS x y n) = lastC n := by
  unfold lastC
  rw [exS_op, exS_kids, List.getElem?_map]
  cases n.kids[1]? with
  | none => rfl
  | some k => simp only [Option.map_some, Option.all_some, exS_op, exS_num]
theorem exS_nameC {n : NodeA} (hx : nameB x = true) (hy : nameB y = true) (h : nameC n = true) : nameC (exS x y n) = true := by
  unfold nameC at h ⊢
  rw [exS_op, exS_name]
  unfold exN
  cases hv : varOp n.op with
  | false => simpa using h
  | true =>
    rw [varOp_named hv] at h ⊢
    simp only [Bool.true_or, if_true] at h ⊢
    exact swB_name hx hy h
theorem exS_flow {ks : List NodeA} (h : (List.range (ks.length - 1)).all (flowK ks) = true) : (List.range ((ks.map (exS x y)).length - 1)).all (flowK (ks.map (exS x y))) = true := by
  rw [List.length_map]
  rw [List.all_eq_true] at h ⊢
  intro i hi
  have hi' : i < ks.length - 1 := by simpa using hi
  have hil : i < ks.length := by omega
  have h1 := h i hi
  unfold flowK at h1 ⊢
  rw [List.getElem?_map]
  rw [List.getElem?_eq_getElem hil] at h1 ⊢
  simp only [Option.map_some, Option.all_some, Bool.and_eq_true, List.length_map] at h1 ⊢
  rw [exS_op]
  refine ⟨h1.1, ?_⟩
  rw [List.all_eq_true]
  intro z hz
  rw [← List.map_take] at hz
  obtain ⟨y', hy', rfl⟩ := List.mem_map.1 hz
  have h2 := List.all_eq_true.1 h1.2 y' hy'
  cases h55 : ks[i].op == 55 with
  | false => rfl
  | true =>
    rw [h55] at h2
    simp only [Bool.true_and, Bool.not_eq_true'] at h2 ⊢
    obtain ⟨j, hj, e⟩ := List.mem_take_iff_getElem.1 hy'
    have hj' : j < i := by omega
    have hjl : j < ks.length := by omega
    have h3 := h j (by simp; omega)
    unfold flowK at h3
    rw [List.getElem?_eq_getElem hjl] at h3
    simp only [Option.all_some, Bool.and_eq_true, Bool.not_eq_true'] at h3
    have hop : y'.op = 55 := by
      rw [← e]
      have h4 := h3.1
      rw [Bool.and_eq_false_iff] at h4
      rcases h4 with h4 | h4
      · simpa using h4
      · rw [Bool.or_eq_false_iff] at h4
        have h5 : (j : Int) = ((ks.length - 2 : Nat) : Int) := by simpa using h4.2
        omega
    rw [exS_name, exS_name]
    have v1 : varOp y'.op = true := by rw [hop]; decide
    have v2 : varOp ks[i].op = true := by rw [eq_of_beq h55]; decide
    unfold exN
    rw [v1, v2]
    simp only [if_true]
    refine neB fun e => ?_
    have := swB_inj e
    rw [this, eqB.2 rfl] at h2; cases h2
theorem exS_st {n : NodeA} {d fd fl : Bool} (h : stC n d fd fl = true) : stC (exS x y n) d fd fl = true := by
  unfold stC at h ⊢
  rw [exS_op, exS_kids, List.length_map]
  split
  · next h1 => rw [if_pos h1] at h; exact h
  · next h1 =>
    rw [if_neg h1] at h
    split
    · next h2 =>
      rw [if_pos h2, Bool.and_eq_true] at h
      rw [Bool.and_eq_true]
      have := exS_flow (x := x) (y := y) h.2
      rw [List.length_map] at this
      exact ⟨h.1, this⟩
    · next h2 =>
      rw [if_neg h2] at h
      have e : ((n.kids.map (exS x y))[0]?).all diffS = (n.kids[0]?).all diffS := by
        rw [List.getElem?_map]
        cases n.kids[0]? with
        | none => rfl
        | some k => simp only [Option.map_some, Option.all_some, exS_diff]
      rw [e]; exact h
theorem exS_ok (hx : nameB x = true) (hy : nameB y = true) : ∀ n d fd fl, okS n d fd fl = true → okS (exS x y n) d fd fl = true := by
  refine NodeA.ind fun n ih => ?_
  intro d fd fl h
  rw [okS_eq] at h ⊢
  simp only [Bool.and_eq_true] at h ⊢
  obtain ⟨h1, h2, h3, h4, h5, h6⟩ := h
  refine ⟨by rw [exS_num_ok]; exact h1, exS_nameC hx hy h2, exS_st h3, ?_, ?_, by rw [exS_last]; exact h6⟩
  · rw [exS_sorts, exS_kids, List.map_map]
    have : n.kids.map ((fun x => sortS x.op) ∘ exS x y) = n.kids.map fun x => sortS x.op := List.map_congr_left fun k hk => by simp only [Function.comp, exS_op]
    rw [this]; exact h4
  · rw [exS_kids, exS_op, List.all_map, List.all_eq_true]
    intro k hk
    exact ih k hk _ _ _ (List.all_eq_true.1 h5 k hk)
/-! ### Symbols -/
def occB (o : Int) : NodeA → Bool
  | .mk op _ _ ks => op == o || ks.attach.any fun ⟨k, _⟩ => occB o k
termination_by n => SizeOf.sizeOf n
decreasing_by exact NodeA.size_kid (by assumption)
theorem occB_eq {o : Int} (n : NodeA) : occB o n = (n.op == o || n.kids.any (occB o)) := by
  cases n with | mk op m r ks => rw [occB]; simp [NodeA.op, NodeA.kids]
end
theorem scan_any {α : Type} {l : List α} {q : α → Bool} {K : Nat} (hl : l.length < K) (hb : l.length ≤ big) {f : (Int → Option (Out Unit Bool)) → Int → Option (Out Unit Bool)}
    (h1 : ∀ g (i : Nat) x, l[i]? = some x → f g i = if q x then some (.out true) else g (IntKind.wrap .i64 ((i : Int) + 1))) (h2 : ∀ g (i : Nat), l.length ≤ i → f g i = some (.go ())) : iter K f 0 = some (if l.any q then .out true else .go ()) := by
  unfold big at hb
  rw [scan l (fun x => !q x) true (by omega) (fun g i x hx => by rw [h1 g i x hx]; cases q x <;> rfl) h2 hl]
  have : l.all (fun x => !q x) = !l.any q := by rw [Bool.eq_iff_iff]; simp
  rw [this]
  cases l.any q <;> rfl
theorem lt_tn {i n : Nat} (h : i < n) : decide ((i : Int) < (n : Int)) = true := decide_eq_true (by omega)
theorem lt_fn {i n : Nat} (h : n ≤ i) : decide ((i : Int) < (n : Int)) = false := decide_eq_false (by omega)
theorem occurs_iter {K : Nat} {o : Int} : ∀ (n : NodeA) (j : Nat), n.size ≤ j → n.size ≤ K → n.size ≤ big → iter j (fun self q => r10_Occurs_body K self q.1 q.2) (n, o) = some (occB o n) := by
  refine NodeA.ind fun n ih => ?_
  intro j hj hK hb
  have hp := n.size_pos
  have hkl := n.kids_lt
  obtain ⟨j, rfl⟩ : ∃ i, j = i + 1 := ⟨j - 1, by omega⟩
  rw [iter_succ, occB_eq]
  have ih' : ∀ k ∈ n.kids, iter j (fun self q => r10_Occurs_body K self q.1 q.2) (k, o) = some (occB o k) := fun k hk => ih k hk j (by have := NodeA.size_lt hk; omega) (by have := NodeA.size_lt hk; omega) (by have := NodeA.size_lt hk; omega)
  generalize iter j (fun self q => r10_Occurs_body K self q.1 q.2) = S at ih' ⊢
  unfold r10_Occurs_body
  simp only
  cases h : n.op == o with
  | true => rfl
  | false =>
    simp only [Bool.false_eq_true, if_false, Bool.false_or]
    refine ob _ (scan_any (l := n.kids) (q := occB o) (by omega) (by omega) (fun g i x hx => ?_) fun g i hi => ?_) ?_
    · obtain ⟨hlt, rfl⟩ := List.getElem?_eq_some_iff.1 hx
      simp only [lt_tn hlt, if_true, idx_nat, hx, Option.bind_some, ih' _ (List.getElem_mem hlt), outM_eq]
    · simp only [lt_fn hi, Bool.false_eq_true, if_false]
    · cases n.kids.any (occB o) <;> rfl
theorem uses_iter {K : Nat} {l : List Int} (hl : l.length < K) (hlb : l.length ≤ big) : ∀ (n : NodeA) (j : Nat), n.size ≤ j → n.size ≤ K → n.size ≤ big → iter j (fun self q => static_Uses_body K self q.1 q.2) (n, l) = some (l.any fun o => occB o n) := by
  refine NodeA.ind fun n ih => ?_
  intro j hj hK hb
  have hp := n.size_pos
  have hkl := n.kids_lt
  obtain ⟨j, rfl⟩ : ∃ i, j = i + 1 := ⟨j - 1, by omega⟩
  rw [iter_succ]
  have ih' : ∀ k ∈ n.kids, iter j (fun self q => static_Uses_body K self q.1 q.2) (k, l) = some (l.any fun o => occB o k) := fun k hk => ih k hk j (by have := NodeA.size_lt hk; omega) (by have := NodeA.size_lt hk; omega) (by have := NodeA.size_lt hk; omega)
  have hsplit : (l.any fun o => occB o n) = ((l.any fun o => n.op == o) || n.kids.any fun k => l.any fun o => occB o k) := by
    rw [Bool.eq_iff_iff]
    simp only [Bool.or_eq_true, List.any_eq_true]
    constructor
    · rintro ⟨o, ho, h⟩
      rw [occB_eq, Bool.or_eq_true, List.any_eq_true] at h
      rcases h with h | ⟨k, hk, h⟩
      · exact .inl ⟨o, ho, h⟩
      · exact .inr ⟨k, hk, o, ho, h⟩
    · rintro (⟨o, ho, h⟩ | ⟨k, hk, o, ho, h⟩)
      · exact ⟨o, ho, by rw [occB_eq, h]; rfl⟩
      · exact ⟨o, ho, by rw [occB_eq, Bool.or_eq_true, List.any_eq_true]; exact .inr ⟨k, hk, h⟩⟩
  rw [hsplit]
  generalize iter j (fun self q => static_Uses_body K self q.1 q.2) = S at ih' ⊢
  unfold static_Uses_body
  simp only
  refine ob _ (scan_any (l := l) (q := fun o => n.op == o) hl hlb (fun g i x hx => ?_) fun g i hi => ?_) ?_
  · obtain ⟨hlt, rfl⟩ := List.getElem?_eq_some_iff.1 hx
    simp only [lt_tn hlt, if_true, idx_nat, hx, Option.bind_some, outM_eq]
  · simp only [lt_fn hi, Bool.false_eq_true, if_false]
  · cases h : l.any fun o => n.op == o with
    | true => rfl
    | false =>
      simp only [Bool.false_eq_true, if_false, Out.fin_go, Bool.false_or]
      refine ob _ (scan_any (l := n.kids) (q := fun k => l.any fun o => occB o k) (by omega) (by omega) (fun g i x hx => ?_) fun g i hi => ?_) ?_
      · obtain ⟨hlt, rfl⟩ := List.getElem?_eq_some_iff.1 hx
        simp only [lt_tn hlt, if_true, idx_nat, hx, Option.bind_some, ih' _ (List.getElem_mem hlt), outM_eq]
      · simp only [lt_fn hi, Bool.false_eq_true, if_false]
      · cases n.kids.any fun k => l.any fun o => occB o k <;> rfl
def renB (n : NodeA) : Bool := !(occB 11 n || (occB 38 n || (occB 61 n || (occB 62 n || occB 56 n))))
theorem rename_renamable_eq {K : Nat} {n : NodeA} (hK : n.size ≤ K) (h12 : 12 < K) (hb : n.size ≤ big) : rename_renamable K n = some (renB n) := by
  have hu : static_Uses K n [11, 38, 61, 62, 56] = some (!renB n) := by
    have := uses_iter (K := K) (l := [11, 38, 61, 62, 56]) (by simp; omega) (by show 5 ≤ 1099511627776; omega) n K hK hK hb
    refine this.trans ?_
    unfold renB
    simp only [List.any_cons, List.any_nil, Bool.or_false, Bool.not_not]
  unfold rename_renamable
  rw [hu]; simp
theorem r18_renamable_eq {K : Nat} {n : NodeA} (hK : n.size ≤ K) (hb : n.size ≤ big) : r18_renamable K n = some (renB n) := by
  have ho : ∀ o, r10_Occurs K n o = some (occB o n) := fun o => occurs_iter n K hK hK hb
  unfold r18_renamable renB
  simp only [ho, Option.bind_some]
  cases occB 11 n <;> cases occB 38 n <;> cases occB 61 n <;> cases occB 62 n <;> cases occB 56 n <;> rfl
end Go.Proofs.YtngmfimpaembnaaGreatDoor
namespace Go.Proofs.YtngmfimpaembnaaGreatDoor
open Go Go.Iso Go.Proofs
set_option linter.unusedSimpArgs false
set_option linter.unusedVariables false
set_option maxRecDepth 100000
theorem awake18_eq (k : Nat) : law18_awake (k + 200) = some true := by kernel_rfl
/-! ### Copies -/
def Few (r : RatA) : Prop := r.num.length ≤ 100 ∧ r.den.length ≤ 100
theorem natS_few {r : RatA} (h : natS r = true) : Few r := by
  unfold natS at h
  simp only [Bool.and_eq_true, decide_eq_true_eq] at h
  have hd : r.den = [1] := eq_of_beq h.1.1.2
  exact ⟨by omega, by rw [hd]; simp⟩
theorem fine_few {n : NodeA} (h : Fine n) : Few n.num := by
  obtain ⟨d, fd, fl, h⟩ := h
  rw [okS_eq] at h
  simp only [Bool.and_eq_true] at h
  have h := h.1
  unfold numC at h
  split at h
  · exact natS_few h
  · simp only [Bool.not_eq_true', Bool.or_eq_false_iff, decide_eq_false_iff_not] at h
    exact ⟨by omega, by omega⟩
theorem app_few {l : List Int} (h : l.length ≤ 100) : appO 4 [] l = some l := by
  unfold appO; rw [if_pos (by simp; omega)]; rfl
theorem app_few' {l : List Int} (h : l.length ≤ 100) : ((if (decide ((0 : Int) < (l.length : Int))) then (appO 4 [] l).bind fun l4 => some l4 else some []) : Option (List Int)) = some l := by
  cases l with
  | nil => rfl
  | cons a l => rw [app_few h]; simp
theorem copy_leaf {K : Nat} {op : Int} {m : ByteArray} {r : RatA} (h : Few r) (hK : 0 < K) : tree_Copy K (.mk op m r []) = some (.mk op m r []) := by
  obtain ⟨k, rfl⟩ : ∃ k, K = k + 1 := ⟨K - 1, by omega⟩
  unfold tree_Copy
  rw [iter_succ]
  generalize iter k (fun self q => tree_Copy_body (k + 1) self q) = S
  unfold tree_Copy_body
  simp only [NodeA.num_mk, NodeA.kids_mk, NodeA.op_mk, NodeA.name_mk]
  refine ob _ (app_few' h.1) (ob _ (app_few' h.2) (ob _ (iter_succ ..) ?_))
  rfl
theorem app_node {l : List NodeA} {x : NodeA} (h : l.length ≤ big) : appO 104 l [x] = some (l ++ [x]) := by
  unfold appO big at *
  rw [if_pos (by simp only [List.length_singleton]; omega)]
section
variable {x y : ByteArray}
theorem uniform_iter {K : Nat} : ∀ (n : NodeA) (j : Nat), Fine n → n.size ≤ j → n.size ≤ K → n.size ≤ big → iter j (fun self q => rename_uniform_2_body K self q.1 q.2.1 q.2.2) (n, x, y) = some (exS x y n) := by
  refine NodeA.ind fun n ih => ?_
  intro j hf hj hK hb
  have hp := n.size_pos
  have hkl := n.kids_lt
  obtain ⟨j, rfl⟩ : ∃ i, j = i + 1 := ⟨j - 1, by omega⟩
  rw [iter_succ]
  have ih' : ∀ k ∈ n.kids, iter j (fun self q => rename_uniform_2_body K self q.1 q.2.1 q.2.2) (k, x, y) = some (exS x y k) := fun k hk => ih k hk j (fine_kid hf hk) (by have := NodeA.size_lt hk; omega) (by have := NodeA.size_lt hk; omega) (by have := NodeA.size_lt hk; omega)
  generalize iter j (fun self q => rename_uniform_2_body K self q.1 q.2.1 q.2.2) = S at ih' ⊢
  unfold rename_uniform_2_body
  simp only
  refine ob _ (copy_leaf (fine_few hf) (by omega)) ?_
  simp only [rename_variable_eq, Option.bind_some, rename_uniform_1_eq, NodeA.name_mk, NodeA.op_mk, NodeA.num_mk, NodeA.kids_mk]
  have hn : (if varOp n.op then some (swB x y n.name) else some n.name) = some (exN x y n.op n.name) := by unfold exN; split <;> rfl
  rw [hn]
  simp only [Option.bind_some]
  unfold big at hb
  refine ob (n.kids.map (exS x y)) (foldG n.kids.length (fun i => ((i : Int), (n.kids.take i).map (exS x y))) _ (fun g i hi => ?_) (fun g => ?_) (by omega) rfl) ?_
  · have hx : n.kids[i]? = some n.kids[i] := List.getElem?_eq_getElem hi
    have hl : ((n.kids.take i).map (exS x y)).length ≤ big := by rw [List.length_map, List.length_take]; unfold big; omega
    simp only [lt_tn hi, if_true, idx_nat, hx, Option.bind_some, ih' _ (List.getElem_mem hi), app_node hl]
    have et : n.kids.take (i + 1) = n.kids.take i ++ [n.kids[i]] := by rw [List.take_add_one, hx]; rfl
    rw [w64s (by omega), et, List.map_append]; rfl
  · simp only [lt_fn (Nat.le_refl n.kids.length), Bool.false_eq_true, if_false, List.take_length]
  · cases n with | mk o m r ks => rw [exS_mk]; rfl
theorem exchange_iter {K : Nat} : ∀ (n : NodeA) (j : Nat), n.size ≤ j → n.size ≤ K → n.size ≤ big → iter j (fun self q => r18_Exchange_body K self q.1 q.2.1 q.2.2) (n, x, y) = some (exS x y n) := by
  refine NodeA.ind fun n ih => ?_
  intro j hj hK hb
  have hp := n.size_pos
  have hkl := n.kids_lt
  obtain ⟨j, rfl⟩ : ∃ i, j = i + 1 := ⟨j - 1, by omega⟩
  rw [iter_succ]
  have ih' : ∀ k ∈ n.kids, iter j (fun self q => r18_Exchange_body K self q.1 q.2.1 q.2.2) (k, x, y) = some (exS x y k) := fun k hk => ih k hk j (by have := NodeA.size_lt hk; omega) (by have := NodeA.size_lt hk; omega) (by have := NodeA.size_lt hk; omega)
  generalize iter j (fun self q => r18_Exchange_body K self q.1 q.2.1 q.2.2) = S at ih' ⊢
  unfold r18_Exchange_body
  simp only
  unfold big at hb
  have h1 : ((r18_variable K n.op).bind fun r3 => if r3 then (if (n.name.toList == x.toList) then some (NodeA.mk n.op y n.num n.kids) else if (n.name.toList == y.toList) then some (NodeA.mk n.op x n.num n.kids) else some n) else some n) = some (NodeA.mk n.op (exN x y n.op n.name) n.num n.kids) := by
    rw [r18_variable_eq]
    cases n with
    | mk o m r ks =>
      simp only [Option.bind_some, NodeA.op_mk, NodeA.name_mk, NodeA.num_mk, NodeA.kids_mk]
      unfold exN swB
      cases varOp o <;> cases m.toList == x.toList <;> cases m.toList == y.toList <;> rfl
  refine ob _ h1 ?_
  simp only [NodeA.kids_mk, NodeA.op_mk, NodeA.name_mk, NodeA.num_mk]
  obtain ⟨v0, hv0⟩ : ∃ v0, v0 = NodeA.mk 0 ⟨#[]⟩ (RatA.mk false [] []) [] := ⟨_, rfl⟩
  rw [← hv0]
  have hm : makO 104 (n.kids.length : Int) v0 = some (List.replicate n.kids.length v0) := by
    unfold makO; rw [if_pos ⟨by omega, by simp only [Int.toNat_natCast]; omega⟩, Int.toNat_natCast]
  refine ob _ hm ?_
  refine ob (n.kids.map (exS x y)) (foldG n.kids.length (fun i => ((i : Int), (n.kids.take i).map (exS x y) ++ List.replicate (n.kids.length - i) v0)) _ (fun g i hi => ?_) (fun g => ?_) (by omega) (by simp)) ?_
  · have hx : n.kids[i]? = some n.kids[i] := List.getElem?_eq_getElem hi
    have hlen : ((n.kids.take i).map (exS x y)).length = i := by rw [List.length_map, List.length_take]; omega
    have hrep : List.replicate (n.kids.length - i) v0 = v0 :: List.replicate (n.kids.length - (i + 1)) v0 := by
      rw [show n.kids.length - i = (n.kids.length - (i + 1)) + 1 by omega, List.replicate_succ]
    have hy : ((n.kids.take i).map (exS x y) ++ List.replicate (n.kids.length - i) v0)[i]? = some v0 := by
      rw [List.getElem?_append_right (by omega), hlen, hrep, Nat.sub_self]; rfl
    simp only [lt_tn hi, if_true, idx_nat, hx, Option.bind_some, ih' _ (List.getElem_mem hi), hy, Int.toNat_natCast]
    rw [w64s (by omega), List.set_append_right _ _ (by omega), hlen, hrep, Nat.sub_self, List.set_cons_zero]
    have et : n.kids.take (i + 1) = n.kids.take i ++ [n.kids[i]] := by rw [List.take_add_one, hx]; rfl
    rw [et, List.map_append, List.append_assoc]; rfl
  · simp only [lt_fn (Nat.le_refl n.kids.length), Bool.false_eq_true, if_false, List.take_length, Nat.sub_self, List.replicate_zero, List.append_nil]
  · cases n with | mk o m r ks => rw [exS_mk]; rfl
end
/-! ### Equal to itself -/
theorem words_refl {K : Nat} {l : List Int} (hl : l.length ≤ 100) (hK : 100 < K) : r08_words K l l = some 0 := by
  unfold r08_words
  have e : ((l.length : Int) != (l.length : Int)) = false := by simp
  rw [e]
  simp only [Bool.false_eq_true, if_false]
  refine ob (Out.go () : Out Unit Int) (foldG l.length (fun i => (l.length : Int) - 1 - (i : Int)) (Out.go () : Out Unit Int) (fun g i hi => ?_) (fun g => ?_) (by omega) ?_) rfl
  · have hd : decide ((0 : Int) ≤ (l.length : Int) - 1 - (i : Int)) = true := decide_eq_true (by omega)
    have ez : (l.length : Int) - 1 - (i : Int) = ((l.length - 1 - i : Nat) : Int) := by omega
    have hx : l[l.length - 1 - i]? = some l[l.length - 1 - i] := List.getElem?_eq_getElem (by omega)
    simp only [hd, if_true, ez, idx_nat, hx, Option.bind_some, bne_self_eq_false, Bool.false_eq_true, if_false]
    rw [w64 (by omega) (by omega)]
    show g _ = g ((l.length : Int) - 1 - ((i + 1 : Nat) : Int))
    congr 1
    omega
  · have hd : decide ((0 : Int) ≤ (l.length : Int) - 1 - (l.length : Int)) = false := decide_eq_false (by omega)
    simp only [hd, Bool.false_eq_true, if_false]
  · rw [w64 (by omega) (by omega)]; simp
def FewN : NodeA → Prop
  | .mk _ _ r ks => Few r ∧ ∀ k (h : k ∈ ks), FewN k
termination_by n => SizeOf.sizeOf n
decreasing_by exact NodeA.size_kid h
theorem FewN_mk {o : Int} {m : ByteArray} {r : RatA} {ks : List NodeA} : FewN (.mk o m r ks) = (Few r ∧ ∀ k ∈ ks, FewN k) := by rw [FewN]
theorem FewN_num {n : NodeA} (h : FewN n) : Few n.num := by cases n; rw [FewN_mk] at h; exact h.1
theorem FewN_kid {n k : NodeA} (h : FewN n) (hk : k ∈ n.kids) : FewN k := by cases n; rw [FewN_mk] at h; exact h.2 k hk
theorem fine_fewN : ∀ n : NodeA, Fine n → FewN n := NodeA.ind fun n ih => by
  intro h
  have h1 := fine_few h
  have h2 : ∀ k ∈ n.kids, FewN k := fun k hk => ih k hk (fine_kid h hk)
  cases n with | mk o m r ks => rw [FewN_mk]; exact ⟨h1, h2⟩
theorem compare_refl {K : Nat} (hK2 : 100 < K) : ∀ (n : NodeA) (j : Nat), FewN n → n.size ≤ j → n.size ≤ K → n.size ≤ big → iter j (fun self q => r08_Compare_body K self q.1 q.2) (n, n) = some 0 := by
  refine NodeA.ind fun n ih => ?_
  intro j hf hj hK hb
  have hp := n.size_pos
  have hkl := n.kids_lt
  obtain ⟨j, rfl⟩ : ∃ i, j = i + 1 := ⟨j - 1, by omega⟩
  rw [iter_succ]
  have ih' : ∀ k ∈ n.kids, iter j (fun self q => r08_Compare_body K self q.1 q.2) (k, k) = some 0 := fun k hk => ih k hk j (FewN_kid hf hk) (by have := NodeA.size_lt hk; omega) (by have := NodeA.size_lt hk; omega) (by have := NodeA.size_lt hk; omega)
  generalize iter j (fun self q => r08_Compare_body K self q.1 q.2) = S at ih' ⊢
  unfold r08_Compare_body
  simp only
  have hless : ∀ z : Int, r08_less K z z = some 0 := fun z => by
    unfold r08_less
    have e : decide (z < z) = false := by simp
    rw [e]; rfl
  have e1 : (!(n.name.toList == n.name.toList)) = false := by simp
  have e2 : (!(n.num.neg == n.num.neg)) = false := by simp
  simp only [hless, Option.bind_some, bne_self_eq_false, Bool.false_eq_true, if_false, e1, e2, words_refl (FewN_num hf).1 hK2, words_refl (FewN_num hf).2 hK2]
  unfold big at hb
  refine ob (Out.go () : Out Unit Int) (foldG n.kids.length (fun i => (i : Int)) (Out.go () : Out Unit Int) (fun g i hi => ?_) (fun g => ?_) (by omega) rfl) rfl
  · have hx : n.kids[i]? = some n.kids[i] := List.getElem?_eq_getElem hi
    simp only [lt_tn hi, if_true, idx_nat, hx, Option.bind_some, ih' _ (List.getElem_mem hi), bne_self_eq_false, Bool.false_eq_true, if_false]
    rw [w64s (by omega)]
  · simp only [lt_fn (Nat.le_refl n.kids.length), Bool.false_eq_true, if_false]
theorem equal_refl {K : Nat} {n : NodeA} (hK2 : 100 < K) (hf : FewN n) (hK : n.size ≤ K) (hb : n.size ≤ big) : r08_Equal K n n = some true := by
  unfold r08_Equal r08_Compare
  rw [compare_refl hK2 n K hf hK hK hb]; rfl
/-! ### The law -/
theorem rename_check_eq {K : Nat} {n : NodeA} (hK : 12 < K) (hK2 : 2 * n.size ≤ K) (hb : n.size ≤ big) : rename_check K n = some (rootS n) := by
  unfold rename_check rootS
  simp only [tree_Sort_eq, Option.bind_some, orO]
  cases (sortS n.op == 0 || sortS n.op == 4) with
  | true => rfl
  | false => simp only [Bool.false_eq_true, if_false, Option.bind_some, Out.fin_go, tree_Check_eq hK hK2 hb]
theorem r18_check_eq {K : Nat} {n : NodeA} (hK : 12 < K) (hK2 : 2 * n.size ≤ K) (hb : n.size ≤ big) (hw : n.words) : r18_check K n = some (rootS n) := by
  unfold r18_check rootS
  simp only [r08_Sort_eq, Option.bind_some, orO]
  cases (sortS n.op == 0 || sortS n.op == 4) with
  | true => rfl
  | false => simp only [Bool.false_eq_true, if_false, Option.bind_some, Out.fin_go, r08_Check_eq hK hK2 hb hw]
abbrev zN : NodeA := NodeA.mk 0 ⟨#[]⟩ (RatA.mk false [] []) []
end Go.Proofs.YtngmfimpaembnaaGreatDoor
namespace Go.Proofs.YtngmfimpaembnaaGreatDoor
open Go Go.Iso Go.Proofs
set_option linter.unusedSimpArgs false
set_option linter.unusedVariables false
set_option maxRecDepth 100000
/-! ### Variables -/
def unpB (s : ByteArray) : ByteArray := if 0 < s.size ∧ s[s.size - 1]? = some 39 then s.extract 0 (s.size - 1) else s
def varB (s : ByteArray) : Bool := nameB (unpB s)
theorem byte39 (c : UInt8) : ((c.toNat : Int) == 39) = (c == 39) := by
  rw [Bool.eq_iff_iff, beq_iff_eq, beq_iff_eq, ← UInt8.toNat_inj]
  show _ ↔ c.toNat = 39
  omega
/-! ### Sets -/
def topV : Nat := 1000000000000
abbrev tick : ByteArray := ⟨#[39]⟩
structure Uni (V : List ByteArray) : Prop where
  siz : ∀ x ∈ V, x.size < 100
  top : V.length ≤ topV
  cls : ∀ x ∈ V, x[x.size - 1]? ≠ some 39 → x ++ tick ∈ V
structure Good (V : List ByteArray) (A : Api_NamesA) : Prop where
  sp : SP A.list
  var : ∀ x ∈ A.list, varB x = true
  sub : ∀ x ∈ A.list, x ∈ V
  uni : Uni V
theorem Good.len {V : List ByteArray} {A : Api_NamesA} (h : Good V A) : A.list.length ≤ V.length := nodup_len (sp_nodup h.sp) h.sub
theorem Good.lt {V : List ByteArray} {A : Api_NamesA} (h : Good V A) : A.list.length ≤ topV := Nat.le_trans h.len h.uni.top
/-! ### Mixing -/
theorem appO_one {l : List ByteArray} {x : ByteArray} (h : l.length ≤ 4 * topV) : appO 16 l [x] = some (l ++ [x]) := by
  unfold appO topV at *
  rw [if_pos (by simp only [List.length_singleton]; omega)]
/-! ### The operations -/
def unionS (a b : Api_NamesA) : Api_NamesA :=
  if a.all = true then (if b.all = true then ⟨true, mixS false true false a.list b.list⟩ else ⟨true, mixS true false false a.list b.list⟩)
  else if b.all = true then ⟨true, mixS false false true a.list b.list⟩ else ⟨false, mixS true true true a.list b.list⟩
def notS (a : Api_NamesA) : Api_NamesA := ⟨!a.all, a.list⟩
def meetS (a b : Api_NamesA) : Api_NamesA := notS (unionS (notS a) (notS b))
def minusS (a b : Api_NamesA) : Api_NamesA := meetS a (notS b)
def KOk (V : List ByteArray) (K : Nat) : Prop := 12 < K ∧ 2 * V.length < K
section
variable {V : List ByteArray} {A B : Api_NamesA} {K : Nat}
theorem good_mix (ha : Good V A) (hb : Good V B) (x l bo r : Bool) : Good V ⟨x, mixS l bo r A.list B.list⟩ :=
  ⟨sp_mix ha.sp hb.sp, fun y hy => (sub_mix ha.sp hb.sp hy).elim (ha.var y) (hb.var y), fun y hy => (sub_mix ha.sp hb.sp hy).elim (ha.sub y) (hb.sub y), ha.uni⟩
theorem good_union (ha : Good V A) (hb : Good V B) : Good V (unionS A B) := by
  unfold unionS; split <;> split <;> exact good_mix ha hb _ _ _ _
theorem good_not (ha : Good V A) : Good V (notS A) := ⟨ha.sp, ha.var, ha.sub, ha.uni⟩
theorem good_meet (ha : Good V A) (hb : Good V B) : Good V (meetS A B) := good_not (good_union (good_not ha) (good_not hb))
theorem good_minus (ha : Good V A) (hb : Good V B) : Good V (minusS A B) := good_meet ha (good_not hb)
theorem good_one {x : ByteArray} (hV : Uni V) (hx : varB x = true) (hm : x ∈ V) : Good V ⟨false, [x]⟩ :=
  ⟨by simp, fun y hy => by rw [List.mem_singleton] at hy; rw [hy]; exact hx, fun y hy => by rw [List.mem_singleton] at hy; rw [hy]; exact hm, hV⟩
theorem good_none (hV : Uni V) (x : Bool) : Good V ⟨x, []⟩ := ⟨by simp, fun y hy => (by cases hy), fun y hy => (by cases hy), hV⟩
/-! ### Members -/
noncomputable def inS (s : Api_NamesA) (v : ByteArray) : Bool := pB (v ∈ s.list) != s.all
theorem union_all {a b : Api_NamesA} : (unionS a b).all = (a.all || b.all) := by
  unfold unionS; cases a.all <;> cases b.all <;> rfl
theorem union_in (ha : Good V A) (hb : Good V B) (v : ByteArray) : inS (unionS A B) v = (inS A v || inS B v) := by
  have key : ∀ l bo r, pB (v ∈ mixS l bo r A.list B.list) = ((pB (v ∈ A.list) && !pB (v ∈ B.list) && l) || (pB (v ∈ A.list) && pB (v ∈ B.list) && bo) || (!pB (v ∈ A.list) && pB (v ∈ B.list) && r)) := fun l bo r => by
    rw [Bool.eq_iff_iff, pB_true, mem_mix ha.sp hb.sp]
    by_cases h1 : v ∈ A.list <;> by_cases h2 : v ∈ B.list <;> simp [h1, h2, pB_true.2 h1, pB_true.2 h2, pB_false.2, pB]
  unfold inS unionS
  cases h1 : A.all <;> cases h2 : B.all <;> simp only [Bool.false_eq_true, if_true, if_false, key] <;> cases pB (v ∈ A.list) <;> cases pB (v ∈ B.list) <;> rfl
theorem not_in {s : Api_NamesA} (v : ByteArray) : inS (notS s) v = !inS s v := by
  unfold inS notS; cases pB (v ∈ s.list) <;> cases s.all <;> rfl
theorem meet_all {a b : Api_NamesA} : (meetS a b).all = (a.all && b.all) := by
  show (!(unionS (notS a) (notS b)).all) = _
  rw [union_all]; simp only [notS]; cases a.all <;> cases b.all <;> rfl
theorem meet_in (ha : Good V A) (hb : Good V B) (v : ByteArray) : inS (meetS A B) v = (inS A v && inS B v) := by
  rw [meetS, not_in, union_in (good_not ha) (good_not hb), not_in, not_in]
  cases inS A v <;> cases inS B v <;> rfl
theorem minus_all {a b : Api_NamesA} : (minusS a b).all = (a.all && !b.all) := by rw [minusS, meet_all]; rfl
theorem minus_in (ha : Good V A) (hb : Good V B) (v : ByteArray) : inS (minusS A B) v = (inS A v && !inS B v) := by
  rw [minusS, meet_in ha (good_not hb), not_in]
theorem in_none (v : ByteArray) : inS ⟨false, []⟩ v = false := by unfold inS; rw [pB_false.2 (by simp)]; rfl
end
/-! ### Primes -/
theorem tick_size {x : ByteArray} : (x ++ tick).size = x.size + 1 := by simp [ByteArray.size_append]; rfl
theorem tick_last {x : ByteArray} : (x ++ tick)[(x ++ tick).size - 1]? = some 39 := by
  rw [tick_size, getElem?_pos (x ++ tick) (x.size + 1 - 1) (by rw [tick_size]; omega)]
  congr 1
  simp only [Nat.add_sub_cancel]
  rw [ByteArray.getElem_append_right (by omega)]
  simp only [Nat.sub_self]
  rfl
theorem tick_cut {x : ByteArray} : (x ++ tick).extract 0 ((x ++ tick).size - 1) = x := by
  rw [tick_size, Nat.add_sub_cancel]
  apply toList_inj
  rw [bytes_toList, bytes_toList]
  have e : x.data.toList.length = x.size := rfl
  rw [ByteArray.data_extract, ByteArray.data_append, Array.toList_extract, Array.toList_append, List.extract_eq_take_drop, List.drop_zero, Nat.sub_zero, ← e, List.take_left']
  rfl
theorem unp_tick {x : ByteArray} : unpB (x ++ tick) = x := by
  unfold unpB
  rw [if_pos ⟨by rw [tick_size]; omega, tick_last⟩, tick_cut]
theorem tick_inj {x y : ByteArray} (h : x ++ tick = y ++ tick) : x = y := by
  have := congrArg unpB h; rwa [unp_tick, unp_tick] at this
theorem name_size {x : ByteArray} (h : nameB x = true) : 0 < x.size ∧ x.size ≤ 12 := by
  unfold nameB at h
  simp only [Bool.and_eq_true, Bool.not_eq_true', Bool.or_eq_false_iff] at h
  obtain ⟨⟨h1, h2, _⟩, _⟩ := h
  have h1 : (x.size : Int) ≠ 0 := by simpa using h1
  have h2 : ¬ (12 : Int) < (x.size : Int) := of_decide_eq_false h2
  omega
theorem catO_tick {x : ByteArray} (h : x.size < 100) : catO x tick = some (x ++ tick) := by
  unfold catO
  rw [if_pos]
  have : tick.size = 1 := rfl
  rw [this]
  have : IntKind.i64.max = 9223372036854775807 := by decide
  rw [this]; omega
def primL (l : List ByteArray) : List ByteArray := (l.filter fun x => !(x[x.size - 1]? == some 39)).map (· ++ tick)
end Go.Proofs.YtngmfimpaembnaaGreatDoor
namespace Go.Proofs.YtngmfimpaembnaaGreatDoor
open Go Go.Iso Go.Proofs
set_option linter.unusedSimpArgs false
set_option linter.unusedVariables false
set_option maxRecDepth 100000
def namesN : NodeA → List ByteArray
  | .mk _ name _ kids => name :: (kids.attach.map fun ⟨k, _⟩ => namesN k).flatten
termination_by n => SizeOf.sizeOf n
decreasing_by exact NodeA.size_kid (by assumption)
theorem names_mk {o : Int} {m : ByteArray} {r : RatA} {ks : List NodeA} : namesN (.mk o m r ks) = m :: (ks.map namesN).flatten := by
  rw [namesN]; simp
theorem names_len : ∀ n : NodeA, (namesN n).length = n.size := NodeA.ind fun n ih => by
  cases n with
  | mk o m r ks =>
    rw [names_mk, NodeA.size_mk, List.length_cons, List.length_flatten, List.map_map]
    have : ks.map (List.length ∘ namesN) = ks.map NodeA.size := List.map_congr_left fun k hk => ih k hk
    rw [this]; omega
theorem names_self (n : NodeA) : n.name ∈ namesN n := by cases n; rw [names_mk]; exact List.mem_cons_self ..
theorem names_kid {n k : NodeA} (hk : k ∈ n.kids) {x : ByteArray} (hx : x ∈ namesN k) : x ∈ namesN n := by
  cases n with
  | mk o m r ks =>
    rw [names_mk]
    exact List.mem_cons_of_mem _ (List.mem_flatten.2 ⟨_, List.mem_map_of_mem hk, hx⟩)
def uniL (n : NodeA) : List ByteArray := (namesN n).filter nameB ++ ((namesN n).filter nameB).map (· ++ tick)
def Cov (V : List ByteArray) (n : NodeA) : Prop := ∀ x ∈ namesN n, nameB x = true → x ∈ V ∧ x ++ tick ∈ V
theorem cov_kid {V : List ByteArray} {n k : NodeA} (h : Cov V n) (hk : k ∈ n.kids) : Cov V k := fun x hx => h x (names_kid hk hx)
theorem cov_uni (n : NodeA) : Cov (uniL n) n := fun x hx hn => by
  have : x ∈ (namesN n).filter nameB := List.mem_filter.2 ⟨hx, hn⟩
  exact ⟨List.mem_append_left _ this, List.mem_append_right _ (List.mem_map_of_mem this)⟩
theorem uni_uni {n : NodeA} (h : n.size ≤ 100000000) : Uni (uniL n) where
  siz := fun x hx => by
    unfold uniL at hx
    rcases List.mem_append.1 hx with hx | hx
    · have := (name_size (List.mem_filter.1 hx).2).2; omega
    · obtain ⟨y, hy, rfl⟩ := List.mem_map.1 hx
      have := (name_size (List.mem_filter.1 hy).2).2
      rw [tick_size]; omega
  top := by
    unfold uniL topV
    rw [List.length_append, List.length_map]
    have := List.length_filter_le nameB (namesN n)
    rw [names_len] at this; omega
  cls := fun x hx h39 => by
    unfold uniL at hx ⊢
    rcases List.mem_append.1 hx with hx | hx
    · exact List.mem_append_right _ (List.mem_map_of_mem hx)
    · obtain ⟨y, hy, rfl⟩ := List.mem_map.1 hx
      exact absurd tick_last h39
theorem name_last {x : ByteArray} (h : nameB x = true) : x[x.size - 1]? ≠ some 39 := by
  intro h39
  have hs := (name_size h).1
  unfold nameB at h
  rw [Bool.and_eq_true, List.all_eq_true] at h
  have := h.2 (x.size - 1) (List.mem_range.2 (by omega))
  rw [h39] at this
  have e : (letB ((39 : UInt8).toNat : Int)) = false := by decide
  have e2 : (digB ((39 : UInt8).toNat : Int)) = false := by decide
  rw [Option.all_some, e, e2] at this
  simp at this
theorem name_var {x : ByteArray} (h : nameB x = true) : varB x = true := by
  unfold varB unpB
  rw [if_neg (fun h2 => name_last h h2.2)]; exact h
theorem tick_var {x : ByteArray} (h : nameB x = true) : varB (x ++ tick) = true := by
  unfold varB; rw [unp_tick]; exact h
theorem fine_name {n : NodeA} (h : Fine n) (hn : namedS n.op = true) : nameB n.name = true := by
  obtain ⟨d, fd, fl, h⟩ := h
  rw [okS_eq] at h
  simp only [Bool.and_eq_true] at h
  have := h.2.1
  unfold nameC at this
  rw [hn] at this
  simpa using this
theorem fine_sorts {n : NodeA} (h : Fine n) : (n.kids.map fun x => sortS x.op) = sortsC n := by
  obtain ⟨d, fd, fl, h⟩ := h
  rw [okS_eq] at h
  simp only [Bool.and_eq_true] at h
  exact eq_of_beq h.2.2.2.1
theorem fine_len {n : NodeA} (h : Fine n) : n.kids.length = (sortsC n).length := by rw [← fine_sorts h, List.length_map]
abbrev noneS : Api_NamesA := ⟨false, []⟩
abbrev allS : Api_NamesA := ⟨true, []⟩
abbrev oneS (x : ByteArray) : Api_NamesA := ⟨false, [x]⟩
def unL (s : Api_NamesA) (l : List Api_NamesA) : Api_NamesA := l.foldl unionS s
section
variable {V : List ByteArray}
theorem good_unL : ∀ {l : List Api_NamesA} {s : Api_NamesA}, Good V s → (∀ x ∈ l, Good V x) → Good V (unL s l)
  | [], s, h, _ => h
  | x :: l, s, h, hl => good_unL (l := l) (good_union h (hl x (List.mem_cons_self ..))) fun y hy => hl y (List.mem_cons_of_mem _ hy)
end
theorem sort34 {op : Int} (h : 50 ≤ op) (h2 : op ≤ 62) : sortS op = if op = 55 ∨ op = 56 then 4 else 3 := by
  unfold sortS
  have e1 : (decide (1 ≤ op) && decide (op ≤ 13)) = false := by simp; omega
  have e2 : (decide (20 ≤ op) && decide (op ≤ 39)) = false := by simp; omega
  have e4 : (decide (50 ≤ op) && decide (op ≤ 62)) = true := by simp; omega
  rw [e1, e2, e4]
  by_cases h : op = 55 ∨ op = 56
  · have : (op == 55 || op == 56) = true := by simpa using h
    rw [this, if_pos h]; rfl
  · have : (op == 55 || op == 56) = false := by simp; omega
    rw [this, if_neg h]; rfl
theorem sort_prog {op : Int} (h : sortS op = 3 ∨ sortS op = 4) : 50 ≤ op ∧ op ≤ 62 := by
  apply Classical.byContradiction
  intro hc
  unfold sortS at h
  have e3 : (op == 55 || op == 56) = false := by simp; omega
  have e4 : (decide (50 ≤ op) && decide (op ≤ 62)) = false := by simp; omega
  rw [e3, e4] at h
  revert h
  cases (decide (1 ≤ op) && decide (op ≤ 13)) <;> cases (decide (20 ≤ op) && decide (op ≤ 39)) <;> simp
section
variable {V : List ByteArray}
theorem good_name {n : NodeA} (hV : Uni V) (hf : Fine n) (hc : Cov V n) (hn : namedS n.op = true) : Good V (oneS n.name) ∧ Good V (oneS (n.name ++ tick)) ∧ n.name.size < 100 := by
  have h1 := fine_name hf hn
  have h2 := hc _ (names_self n) h1
  exact ⟨good_one hV (name_var h1) h2.1, good_one hV (tick_var h1) h2.2, hV.siz _ h2.1⟩
end
theorem named_b {op : Int} (h : op = 2 ∨ op = 3 ∨ op = 33 ∨ op = 34 ∨ op = 50 ∨ op = 51 ∨ op = 52 ∨ op = 55) : namedS op = true := by
  rcases h with rfl | rfl | rfl | rfl | rfl | rfl | rfl | rfl <;> decide +kernel
theorem flow_cut {n : NodeA} (hf : Fine n) (hb : n.size ≤ big) (h54 : n.op = 54) : cutL n.kids none (some (IntKind.wrap .i64 ((n.kids.length : Int) - 1))) = some (n.kids.take (n.kids.length - 1)) ∧ 0 < n.kids.length := by
  have hl := fine_len hf
  have : 0 < n.kids.length := by
    have e : sortsC n = List.replicate (n.kids.length - 1) 4 ++ [2] := by unfold sortsC; rw [h54]; rfl
    rw [e] at hl; simp at hl; omega
  refine ⟨?_, this⟩
  have hkl := n.kids_lt
  unfold big at hb
  rw [w64 (by omega) (by omega)]
  unfold cutL
  simp only [Option.getD_some, Option.getD_none]
  rw [if_pos (by omega)]
  have : ((n.kids.length : Int) - 1).toNat = n.kids.length - 1 := by omega
  simp [this]
theorem sort_cases (op : Int) : sortS op = 0 ∨ sortS op = 1 ∨ sortS op = 2 ∨ sortS op = 3 ∨ sortS op = 4 := by
  unfold sortS
  split
  · simp
  · split
    · simp
    · split
      · simp
      · split <;> simp
theorem op_cases {op : Int} (h : sortS op = 3 ∨ sortS op = 4) : op = 50 ∨ op = 51 ∨ op = 52 ∨ op = 53 ∨ op = 54 ∨ op = 55 ∨ op = 56 ∨ op = 57 ∨ op = 58 ∨ op = 59 ∨ op = 60 ∨ op = 61 ∨ op = 62 := by
  have := sort_prog h; omega
section
variable {V : List ByteArray}
theorem unL_in : ∀ {l : List Api_NamesA} {s : Api_NamesA}, Good V s → (∀ x ∈ l, Good V x) → ∀ v, inS (unL s l) v = true ↔ (inS s v = true ∨ ∃ x ∈ l, inS x v = true)
  | [], s, h, _, v => by simp [unL]
  | x :: l, s, h, hl, v => by
    have hx := hl x (List.mem_cons_self ..)
    have := unL_in (l := l) (s := unionS s x) (good_union h hx) (fun y hy => hl y (List.mem_cons_of_mem _ hy)) v
    show inS (unL (unionS s x) l) v = true ↔ _
    rw [this, union_in h hx, Bool.or_eq_true]
    simp [or_assoc]
end
section
variable {V : List ByteArray}
end
theorem sorts2 {n : NodeA} {a b : Int} (hf : Fine n) (h : sortsC n = [a, b]) : ∃ k0 k1, n.kids = [k0, k1] ∧ sortS k0.op = a ∧ sortS k1.op = b := by
  have := fine_sorts hf
  rw [h] at this
  match hk : n.kids, this with
  | [k0, k1], this => simp at this; exact ⟨k0, k1, rfl, this.1, this.2⟩
theorem sorts1 {n : NodeA} {a : Int} (hf : Fine n) (h : sortsC n = [a]) : ∃ k0, n.kids = [k0] ∧ sortS k0.op = a := by
  have := fine_sorts hf
  rw [h] at this
  match hk : n.kids, this with
  | [k0], this => simp at this; exact ⟨k0, rfl, this⟩
end Go.Proofs.YtngmfimpaembnaaGreatDoor
namespace Go.Proofs.YtngmfimpaembnaaGreatDoor
open Go Go.Iso Go.Proofs
set_option linter.unusedSimpArgs false
set_option linter.unusedVariables false
set_option maxRecDepth 100000
theorem static_mix_eq {K : Nat} {a b : List ByteArray} {l bo r : Bool} (ha : a.length ≤ topV) (hb : b.length ≤ topV) (hK : a.length + b.length < K) : static_mix K a b l bo r = some (mixS l bo r a b) := by
  unfold static_mix
  have ht : topV = 1000000000000 := rfl
  refine ob (mixS l bo r a b) ?_ rfl
  refine (iter_eq (S := Int × Int × List ByteArray) (R := List ByteArray) (fun s => some (s.2.2 ++ mixS l bo r (a.drop s.1.toNat) (b.drop s.2.1.toNat)))
    (fun s => ∃ i j : Nat, s.1 = i ∧ s.2.1 = j ∧ i ≤ a.length ∧ j ≤ b.length ∧ s.2.2.length ≤ i + j) (fun s => (a.length - s.1.toNat) + (b.length - s.2.1.toNat)) ?_ K (0, 0, []) ⟨0, 0, rfl, rfl, Nat.zero_le _, Nat.zero_le _, Nat.le_refl _⟩ (by simpa using hK)).trans ?_
  rotate_left
  · simp
  rintro ⟨z1, z2, out⟩ ⟨i, j, h1, h2, hi, hj, ho⟩ g hg
  simp only at h1 h2 ho
  subst h1 h2
  have hop : ∀ (c : Bool) (x : ByteArray) (m : List ByteArray), ∃ o2, (if c = true then (appO 16 out [x]).bind fun l25 => some l25 else some out) = some o2 ∧ o2 ++ m = out ++ ((if c = true then [x] else []) ++ m) ∧ o2.length ≤ out.length + 1 := by
    intro c x m
    cases c
    · exact ⟨out, by simp, by simp, by omega⟩
    · exact ⟨out ++ [x], by rw [if_pos rfl, appO_one (by omega)]; rfl, by simp, by simp⟩
  by_cases hi' : i < a.length
  · have d1 : decide ((i : Int) < (a.length : Int)) = true := by simp; omega
    have n1 : ((i : Int) == (a.length : Int)) = false := by simp; omega
    have hx : a[i]? = some a[i] := List.getElem?_eq_getElem hi'
    by_cases hj' : j < b.length
    · have n2 : ((j : Int) == (b.length : Int)) = false := by simp; omega
      have hy : b[j]? = some b[j] := List.getElem?_eq_getElem hj'
      simp only [d1, if_true, Option.bind_some, Out.fin_go, n2, Bool.false_eq_true, if_false, idx_nat, hx, hy, n1]
      simp only [Int.toNat_natCast]
      rw [List.drop_eq_getElem_cons hi', List.drop_eq_getElem_cons hj', mixS]
      cases e1 : Op.bytesLess a[i].toList b[j].toList with
      | true =>
        simp only [if_true]
        obtain ⟨o2, q1, q2, q3⟩ := hop l a[i] (mixS l bo r (a.drop (i + 1)) (b[j] :: b.drop (j + 1)))
        rw [q1]
        simp only [Option.bind_some]
        rw [w64s (by omega), hg _ ⟨i + 1, j, rfl, rfl, hi', hj, by simp only; omega⟩ (by simp only [Int.toNat_natCast]; omega)]
        simp only [Int.toNat_natCast]
        rw [if_pos (show ltS a[i] b[j] = true from e1), ← q2, ← List.drop_eq_getElem_cons hj']
      | false =>
        simp only [Bool.false_eq_true, if_false]
        rw [if_neg (show ¬ ltS a[i] b[j] = true by rw [show ltS a[i] b[j] = false from e1]; simp)]
        cases e2 : Op.bytesLess b[j].toList a[i].toList with
        | true =>
          simp only [if_true]
          obtain ⟨o2, q1, q2, q3⟩ := hop r b[j] (mixS l bo r (a[i] :: a.drop (i + 1)) (b.drop (j + 1)))
          rw [q1]
          simp only [Option.bind_some]
          rw [w64s (by omega), hg _ ⟨i, j + 1, rfl, rfl, hi, hj', by simp only; omega⟩ (by simp only [Int.toNat_natCast]; omega)]
          simp only [Int.toNat_natCast]
          rw [if_pos (show ltS b[j] a[i] = true from e2), ← q2, ← List.drop_eq_getElem_cons hi']
        | false =>
          simp only [Bool.false_eq_true, if_false]
          obtain ⟨o2, q1, q2, q3⟩ := hop bo a[i] (mixS l bo r (a.drop (i + 1)) (b.drop (j + 1)))
          rw [q1]
          simp only [Option.bind_some]
          rw [w64s (by omega), w64s (by omega), hg _ ⟨i + 1, j + 1, rfl, rfl, hi', hj', by simp only; omega⟩ (by simp only [Int.toNat_natCast]; omega)]
          simp only [Int.toNat_natCast]
          rw [if_neg (show ¬ ltS b[j] a[i] = true by rw [show ltS b[j] a[i] = false from e2]; simp), ← q2]
    · have hjb : j = b.length := by omega
      subst hjb
      have n2 : ((b.length : Int) == (b.length : Int)) = true := by simp
      simp only [d1, if_true, Option.bind_some, Out.fin_go, n2, idx_nat, hx]
      obtain ⟨o2, q1, q2, q3⟩ := hop l a[i] (mixS l bo r (a.drop (i + 1)) [])
      rw [q1]
      simp only [Option.bind_some]
      rw [w64s (by omega), hg _ ⟨i + 1, b.length, rfl, rfl, hi', hj, by simp only; omega⟩ (by simp only [Int.toNat_natCast]; omega)]
      simp only [Int.toNat_natCast, List.drop_length]
      rw [List.drop_eq_getElem_cons hi', mixS, ← q2]
  · have hia : i = a.length := by omega
    subst hia
    have d1 : decide ((a.length : Int) < (a.length : Int)) = false := by simp
    by_cases hj' : j < b.length
    · have d2 : decide ((j : Int) < (b.length : Int)) = true := by simp; omega
      have n1 : ((a.length : Int) == (a.length : Int)) = true := by simp
      have n2 : ((j : Int) == (b.length : Int)) = false := by simp; omega
      have hy : b[j]? = some b[j] := List.getElem?_eq_getElem hj'
      simp only [d1, d2, if_true, Bool.false_eq_true, if_false, Option.bind_some, Out.fin_go, n1, n2, idx_nat, hy]
      obtain ⟨o2, q1, q2, q3⟩ := hop r b[j] (mixS l bo r [] (b.drop (j + 1)))
      rw [q1]
      simp only [Option.bind_some]
      rw [w64s (by omega), hg _ ⟨a.length, j + 1, rfl, rfl, hi, hj', by simp only; omega⟩ (by simp only [Int.toNat_natCast]; omega)]
      simp only [Int.toNat_natCast, List.drop_length]
      rw [List.drop_eq_getElem_cons hj', mixS, ← q2]
    · have hjb : j = b.length := by omega
      subst hjb
      have d2 : decide ((b.length : Int) < (b.length : Int)) = false := by simp
      simp only [d1, d2, Bool.false_eq_true, if_false, Option.bind_some, outM_eq, Out.fin_out, Int.toNat_natCast, List.drop_length]
      rw [mixS]; simp
section
variable {V : List ByteArray} {A B : Api_NamesA} {K : Nat}
theorem static_union_eq (ha : Good V A) (hb : Good V B) (hK : KOk V K) : static_union K A B = some (unionS A B) := by
  have h1 := ha.len
  have h2 := hb.len
  have hm : ∀ l bo r, static_mix K A.list B.list l bo r = some (mixS l bo r A.list B.list) := fun l bo r => static_mix_eq ha.lt hb.lt (by have := hK.2; omega)
  unfold static_union unionS
  simp only [hm, Option.bind_some]
  cases A.all <;> cases B.all <;> rfl
theorem static_meet_eq (ha : Good V A) (hb : Good V B) (hK : KOk V K) : static_meet K A B = some (meetS A B) := by
  unfold static_meet static_not
  simp only [Option.bind_some]
  exact ob _ (static_union_eq (good_not ha) (good_not hb) hK) rfl
theorem static_minus_eq (ha : Good V A) (hb : Good V B) (hK : KOk V K) : static_minus K A B = some (minusS A B) := by
  unfold static_minus static_not
  simp only [Option.bind_some]
  exact ob _ (static_meet_eq ha (good_not hb) hK) rfl
end
theorem static_primes_form {V : List ByteArray} {A : Api_NamesA} (ha : Good V A) : ∃ F, (Good V F ∧ ∀ K, KOk V K → static_primes K A = some F) ∧ (A.all = false → F = unionS A ⟨false, sortB (primL A.list)⟩ ∧ Good V ⟨false, sortB (primL A.list)⟩) := by
  by_cases hA : A.all = true
  · refine ⟨⟨true, []⟩, ⟨good_none ha.uni true, fun K hK => ?_⟩, fun h => by rw [h] at hA; cases hA⟩
    unfold static_primes static_everything
    rw [hA]; rfl
  · have hA : A.all = false := by simpa using hA
    have hlen := ha.len
    have htop := ha.lt
    have ht : topV = 1000000000000 := rfl
    have hpl : ∀ l : List ByteArray, (primL l).length ≤ l.length := fun l => by unfold primL; rw [List.length_map]; exact List.length_filter_le _ _
    have hnp : ∀ x ∈ A.list, x[x.size - 1]? ≠ some 39 → nameB x = true := fun x hx h => by
      have := ha.var x hx
      unfold varB unpB at this
      rwa [if_neg (fun h2 => h h2.2)] at this
    have hgp : Good V ⟨false, sortB (primL A.list)⟩ := by
      refine ⟨sp_sort (nodup_map (fun x y e => tick_inj e) ((sp_nodup ha.sp).filter _)), fun y hy => ?_, fun y hy => ?_, ha.uni⟩
      all_goals
        rw [mem_sortB] at hy
        unfold primL at hy
        simp only [List.mem_map, List.mem_filter, Bool.not_eq_true', beq_eq_false_iff_ne] at hy
        obtain ⟨x, ⟨h1, h2⟩, rfl⟩ := hy
      · unfold varB; rw [unp_tick]; exact hnp x h1 h2
      · exact ha.uni.cls x (ha.sub x h1) h2
    refine ⟨unionS A ⟨false, sortB (primL A.list)⟩, ⟨good_union ha hgp, fun K hK => ?_⟩, fun _ => ⟨rfl, hgp⟩⟩
    have hso : sortO (primL A.list) = some (sortB (primL A.list)) := by
      unfold sortO; rw [if_pos (by have := hpl A.list; omega)]
    unfold static_primes
    rw [hA]
    simp only [Bool.false_eq_true, if_false]
    refine ob (primL A.list) ?_ ?_
    · refine foldG A.list.length (fun i => ((i : Int), primL (A.list.take i))) (primL A.list) (fun g i hi => ?_) (fun g => ?_) (by have := hK.2; omega) rfl
      · have hx : A.list[i]? = some A.list[i] := List.getElem?_eq_getElem hi
        have hm := List.getElem_mem hi
        have hd : decide ((i : Int) < (A.list.length : Int)) = true := decide_eq_true (by omega)
        have hsz : 0 < A.list[i].size := by
          apply Nat.pos_of_ne_zero
          intro h0
          have hv := ha.var _ hm
          unfold varB unpB at hv
          rw [if_neg (fun h => by omega)] at hv
          have := (name_size hv).1
          omega
        have h100 := ha.uni.siz _ (ha.sub _ hm)
        have ew : IntKind.wrap .i64 ((A.list[i].size : Int) - 1) = ((A.list[i].size - 1 : Nat) : Int) := by rw [w64 (by omega) (by omega)]; omega
        obtain ⟨h1, h2⟩ := strAt_get (s := A.list[i]) (i := A.list[i].size - 1) (by omega)
        have hlp : (primL (A.list.take i)).length ≤ topV := by have := hpl (A.list.take i); rw [List.length_take] at this; omega
        have et : A.list.take (i + 1) = A.list.take i ++ [A.list[i]] := by rw [List.take_add_one, hx]; rfl
        have ep : primL (A.list.take (i + 1)) = if A.list[i][A.list[i].size - 1]? = some 39 then primL (A.list.take i) else primL (A.list.take i) ++ [A.list[i] ++ tick] := by
          rw [et]
          unfold primL
          rw [List.filter_append, List.map_append]
          by_cases h : A.list[i][A.list[i].size - 1]? = some 39
          · rw [if_pos h, List.filter_cons_of_neg (by rw [h]; simp)]; simp
          · rw [if_neg h, List.filter_cons_of_pos (by simp [h])]; simp
        rw [ep]
        simp only [hd, if_true, idx_nat, hx, Option.bind_some, ew, h1, catO_tick h100, appO_one (show (primL (A.list.take i)).length ≤ 4 * topV by omega)]
        rw [h2, w64s (by omega)]
        by_cases h39 : A.list[i][A.list[i].size - 1] = 39
        · have e : ((A.list[i][A.list[i].size - 1].toNat : Int) != 39) = false := by rw [bne, byte39, h39]; rfl
          rw [e, h39]; rfl
        · have e : ((A.list[i][A.list[i].size - 1].toNat : Int) != 39) = true := by rw [bne, byte39, beq_eq_false_iff_ne.2 h39]; rfl
          rw [e, if_neg (show ¬ some A.list[i][A.list[i].size - 1] = some 39 from fun h => h39 (Option.some.inj h))]; rfl
      · have hd : decide ((A.list.length : Int) < (A.list.length : Int)) = false := by simp
        simp only [hd, Bool.false_eq_true, if_false, List.take_length]
    · rw [hso]
      exact ob _ rfl (ob _ (static_union_eq ha hgp hK) rfl)
end Go.Proofs.YtngmfimpaembnaaGreatDoor
namespace Go.Proofs.YtngmfimpaembnaaGreatDoor
open Go Go.Iso Go.Proofs
set_option linter.unusedSimpArgs false
set_option linter.unusedVariables false
set_option maxRecDepth 100000
/-! ### The names of a tree -/
/-! ### What is known of nodes -/
section
variable {V : List ByteArray}
theorem loop_eq {K : Nat} (L : List NodeA) {self : NodeA → Option Api_NamesA} (f : NodeA → Api_NamesA) {s0 : Api_NamesA} {φ : (Int × Api_NamesA → Option Api_NamesA) → Int × Api_NamesA → Option Api_NamesA} (hs : ∀ x ∈ L, self x = some (f x)) (hg : ∀ x ∈ L, Good V (f x)) (h0 : Good V s0) (hK : KOk V K) (hL : L.length < K) (hb : L.length ≤ big)
    (h1 : ∀ (g : Int × Api_NamesA → Option Api_NamesA) (i : Nat) (s : Api_NamesA) (x : NodeA), decide ((i : Int) < (L.length : Int)) = true → L[i]? = some x → φ g ((i : Int), s) = (self x).bind fun r => (static_union K s r).bind fun r2 => g (IntKind.wrap .i64 ((i : Int) + 1), r2))
    (h2 : ∀ (g : Int × Api_NamesA → Option Api_NamesA) (s : Api_NamesA), φ g ((L.length : Int), s) = some s) : iter K φ (0, s0) = some (unL s0 (L.map f)) := by
  unfold big at hb
  have hgu : ∀ i, Good V (unL s0 ((L.take i).map f)) := fun i => good_unL h0 fun x hx => by
    obtain ⟨y, hy, rfl⟩ := List.mem_map.1 hx
    exact hg y (List.mem_of_mem_take hy)
  refine foldG L.length (fun i => ((i : Int), unL s0 ((L.take i).map f))) _ (fun g i hi => ?_) (fun g => ?_) hL rfl
  · have hx : L[i]? = some L[i] := List.getElem?_eq_getElem hi
    have hm := List.getElem_mem hi
    have hd : decide ((i : Int) < (L.length : Int)) = true := decide_eq_true (by omega)
    rw [h1 g i _ _ hd hx]
    simp only [Option.bind_some, hs _ hm, static_union_eq (hgu i) (hg _ hm) hK]
    have et : unL s0 ((L.take (i + 1)).map f) = unionS (unL s0 ((L.take i).map f)) (f L[i]) := by
      rw [List.take_add_one, hx]
      simp only [Option.toList_some, List.map_append, List.map_cons, List.map_nil, unL, List.foldl_append, List.foldl_cons, List.foldl_nil]
    rw [w64s (by omega), et]
  · rw [h2, List.take_length]
/-! ### Bound variables -/
def KS (V : List ByteArray) (n : NodeA) (K : Nat) : Prop := KOk V K ∧ 2 * n.size + 2 < K
theorem ks_kid {n k : NodeA} {K : Nat} (h : KS V n K) (hk : k ∈ n.kids) : KS V k K := ⟨h.1, by have := NodeA.size_lt hk; have := h.2; omega⟩
def IsB (V : List ByteArray) (t : Nat) (n : NodeA) (F : Api_NamesA) : Prop := Good V F ∧ ∀ K j, KS V n K → t < j → (grp_static_BoundOf K j).1 n = some F
def IsE (V : List ByteArray) (t : Nat) (n : NodeA) (F : Api_NamesA) : Prop := Good V F ∧ ∀ K j, KS V n K → t < j → (grp_static_BoundOf K j).2 n = some F
noncomputable def bndS (V : List ByteArray) (n : NodeA) : Api_NamesA := Classical.epsilon (h := ⟨noneS⟩) fun F => IsB V (2 * n.size + 1) n F
noncomputable def evS (V : List ByteArray) (n : NodeA) : Api_NamesA := Classical.epsilon (h := ⟨noneS⟩) fun F => IsE V (2 * n.size + 1) n F
theorem ks_ex (n : NodeA) : KS V n (2 * n.size + 2 * V.length + 13) := ⟨⟨by omega, by omega⟩, by omega⟩
theorem bnd_of {n : NodeA} {t : Nat} {F : Api_NamesA} (h : IsB V t n F) (ht : t ≤ 2 * n.size + 1) : IsB V (2 * n.size + 1) n (bndS V n) ∧ bndS V n = F := by
  have h1 : IsB V (2 * n.size + 1) n F := ⟨h.1, fun K j hK hj => h.2 K j hK (by omega)⟩
  have h2 : IsB V (2 * n.size + 1) n (bndS V n) := Classical.epsilon_spec (p := fun F => IsB V (2 * n.size + 1) n F) ⟨F, h1⟩
  exact ⟨h2, Option.some.inj ((h2.2 _ (2 * n.size + 2) (ks_ex n) (by omega)).symm.trans (h1.2 _ (2 * n.size + 2) (ks_ex n) (by omega)))⟩
theorem ev_of {n : NodeA} {t : Nat} {F : Api_NamesA} (h : IsE V t n F) (ht : t ≤ 2 * n.size + 1) : IsE V (2 * n.size + 1) n (evS V n) ∧ evS V n = F := by
  have h1 : IsE V (2 * n.size + 1) n F := ⟨h.1, fun K j hK hj => h.2 K j hK (by omega)⟩
  have h2 : IsE V (2 * n.size + 1) n (evS V n) := Classical.epsilon_spec (p := fun F => IsE V (2 * n.size + 1) n F) ⟨F, h1⟩
  exact ⟨h2, Option.some.inj ((h2.2 _ (2 * n.size + 2) (ks_ex n) (by omega)).symm.trans (h1.2 _ (2 * n.size + 2) (ks_ex n) (by omega)))⟩
noncomputable def bndE (V : List ByteArray) (n : NodeA) : Api_NamesA :=
  if sortS n.op = 1 then noneS
  else if sortS n.op = 2 then evS V n
  else if n.op = 50 ∨ n.op = 52 then oneS n.name
  else if n.op = 51 then oneS (n.name ++ tick)
  else if n.op = 53 then noneS
  else if n.op = 55 then unionS (oneS n.name) (oneS (n.name ++ tick))
  else if n.op = 56 ∨ n.op = 61 ∨ n.op = 62 then allS
  else if n.op = 54 then unL noneS ((n.kids.take (n.kids.length - 1)).map (bndS V))
  else unL noneS (n.kids.map (bndS V))
noncomputable def evE (V : List ByteArray) (n : NodeA) : Api_NamesA :=
  unL (if n.op = 33 ∨ n.op = 34 then oneS n.name else if 3 ≤ sortS n.op then bndS V n else noneS) (n.kids.map (evS V))
def kidsR (K : Nat) (self : NodeA → Option Api_NamesA) (L : List NodeA) : (Int × Api_NamesA → Option Api_NamesA) → Int × Api_NamesA → Option Api_NamesA := fun again x =>
  if decide (x.1 < (L.length : Int)) then (idx L x.1).bind fun x50 => (self x50).bind fun r52 => (static_union K x.2 r52).bind fun r54 => again (IntKind.wrap .i64 (x.1 + (1 : Int)), r54) else some x.2
theorem kids_eq {K : Nat} (L : List NodeA) {self : NodeA → Option Api_NamesA} (f : NodeA → Api_NamesA) {s0 : Api_NamesA} (hs : ∀ x ∈ L, self x = some (f x)) (hg : ∀ x ∈ L, Good V (f x)) (h0 : Good V s0) (hK : KOk V K) (hL : L.length < K) (hb : L.length ≤ big) : iter K (kidsR K self L) (0, s0) = some (unL s0 (L.map f)) := by
  refine loop_eq L f hs hg h0 hK hL hb (fun g i s x hd hx => ?_) fun g s => ?_
  · unfold kidsR; simp only [hd, if_true, idx_nat, hx, Option.bind_some]
  · have hd : decide ((L.length : Int) < (L.length : Int)) = false := by simp
    unfold kidsR; simp only [hd, Bool.false_eq_true, if_false]
section
variable {K : Nat} {s1 s2 : NodeA → Option Api_NamesA} {m : ByteArray} {r : RatA} {ks : List NodeA}
theorem bb50 : static_BoundOf_body K s1 s2 (.mk 50 m r ks) = some (oneS m) := by kernel_rfl
theorem bb52 : static_BoundOf_body K s1 s2 (.mk 52 m r ks) = some (oneS m) := by kernel_rfl
theorem bb51 {s : ByteArray} (hc : catO m tick = some s) : static_BoundOf_body K s1 s2 (.mk 51 m r ks) = some (oneS s) := by
  unfold static_BoundOf_body
  simp only [NodeA.name_mk]
  generalize catO m ⟨#[39]⟩ = c at hc ⊢
  subst hc
  kernel_rfl
theorem bb55 {s : ByteArray} {u : Api_NamesA} (hc : catO m tick = some s) (hu : static_union K (oneS m) (oneS s) = some u) : static_BoundOf_body K s1 s2 (.mk 55 m r ks) = some u := by
  unfold static_BoundOf_body
  simp only [NodeA.name_mk]
  generalize catO m ⟨#[39]⟩ = c at hc ⊢
  subst hc
  generalize static_union K = U at hu ⊢
  exact ob _ (Eq.trans (b := (U (oneS m) (oneS s)).bind fun r => outM (some r)) (by kernel_rfl) (ob u hu rfl)) rfl
theorem bb54 {l : List NodeA} {u : Api_NamesA} (hc : cutL ks none (some (IntKind.wrap .i64 ((ks.length : Int) - 1))) = some l) (hu : iter K (kidsR K s1 l) (0, noneS) = some u) : static_BoundOf_body K s1 s2 (.mk 54 m r ks) = some u := by
  unfold static_BoundOf_body
  simp only [NodeA.name_mk, NodeA.kids_mk]
  generalize catO m ⟨#[39]⟩ = c
  generalize cutL ks none (some (IntKind.wrap .i64 ((ks.length : Int) - 1))) = l' at hc ⊢
  subst hc
  exact ob _ (Eq.trans (b := (iter K (kidsR K s1 l) (0, noneS)).bind fun r => outM (some r)) (by kernel_rfl) (ob u hu rfl)) rfl
theorem bbS {n : NodeA} : static_BoundOf_body K s1 s2 n = (fun so : Int => if so = 0 ∨ so = 1 ∨ so = 2 then (if so = 1 then some noneS else if so = 2 then s2 n else (iter K (kidsR K s1 n.kids) (0, noneS)).bind fun e => some e) else static_BoundOf_body K s1 s2 n) (sortS n.op) := by
  rcases sort_cases n.op with h | h | h | h | h
  all_goals
    simp only [h, Int.reduceEq, or_true, true_or, or_self, if_true, if_false]
  all_goals
    unfold static_BoundOf_body
    rw [tree_Sort_eq, h]
  · kernel_rfl
  · kernel_rfl
  · cases s2 n <;> kernel_rfl
theorem bb53 : static_BoundOf_body K s1 s2 (.mk 53 m r ks) = some noneS := by kernel_rfl
theorem bb56 : static_BoundOf_body K s1 s2 (.mk 56 m r ks) = some allS := by kernel_rfl
theorem bb61 : static_BoundOf_body K s1 s2 (.mk 61 m r ks) = some allS := by kernel_rfl
theorem bb62 : static_BoundOf_body K s1 s2 (.mk 62 m r ks) = some allS := by kernel_rfl
theorem bb57 : static_BoundOf_body K s1 s2 (.mk 57 m r ks) = (iter K (kidsR K s1 ks) (0, noneS)).bind fun e => some e := by kernel_rfl
theorem bb58 : static_BoundOf_body K s1 s2 (.mk 58 m r ks) = (iter K (kidsR K s1 ks) (0, noneS)).bind fun e => some e := by kernel_rfl
theorem bb59 : static_BoundOf_body K s1 s2 (.mk 59 m r ks) = (iter K (kidsR K s1 ks) (0, noneS)).bind fun e => some e := by kernel_rfl
theorem bb60 : static_BoundOf_body K s1 s2 (.mk 60 m r ks) = (iter K (kidsR K s1 ks) (0, noneS)).bind fun e => some e := by kernel_rfl
end
theorem bound_at {n : NodeA} (hV : Uni V) (hf : Fine n) (hc : Cov V n) (hb : n.size ≤ big) (hkB : ∀ k ∈ n.kids, IsB V (2 * k.size + 1) k (bndS V k)) {t : Nat} (ht : 2 * n.size ≤ t + 1) (hE : sortS n.op = 2 → IsE V t n (evS V n)) : IsB V (t + 1) n (bndE V n) := by
  have hkl := n.kids_lt
  have hgo : namedS n.op = true → Good V (oneS n.name) ∧ Good V (oneS (n.name ++ tick)) ∧ n.name.size < 100 := good_name hV hf hc
  have hL : ∀ L : List NodeA, (∀ k ∈ L, k ∈ n.kids) → Good V (unL noneS (L.map (bndS V))) := fun L hL => good_unL (good_none hV _) fun x hx => by
    obtain ⟨k, hk, rfl⟩ := List.mem_map.1 hx
    exact (hkB k (hL k hk)).1
  have hsf : ∀ (K j : Nat) (L : List NodeA), KS V n K → t < j → (∀ k ∈ L, k ∈ n.kids) → ∀ x ∈ L, (grp_static_BoundOf K j).1 x = some (bndS V x) := fun K j L hK hj hLk x hx => (hkB x (hLk x hx)).2 K j (ks_kid hK (hLk x hx)) (by have := NodeA.size_lt (hLk x hx); omega)
  have hgood : Good V (bndE V n) := by
    unfold bndE
    by_cases h1 : sortS n.op = 1
    · rw [if_pos h1]; exact good_none hV _
    rw [if_neg h1]
    by_cases h2 : sortS n.op = 2
    · rw [if_pos h2]; exact (hE h2).1
    rw [if_neg h2]
    by_cases h3 : n.op = 50 ∨ n.op = 52
    · rw [if_pos h3]; exact (hgo (named_b (by omega))).1
    rw [if_neg h3]
    by_cases h4 : n.op = 51
    · rw [if_pos h4]; exact (hgo (named_b (by omega))).2.1
    rw [if_neg h4]
    by_cases h5 : n.op = 53
    · rw [if_pos h5]; exact good_none hV _
    rw [if_neg h5]
    by_cases h6 : n.op = 55
    · rw [if_pos h6]; exact good_union (hgo (named_b (by omega))).1 (hgo (named_b (by omega))).2.1
    rw [if_neg h6]
    split
    · exact good_none hV _
    split
    · exact hL _ fun k hk => List.mem_of_mem_take hk
    · exact hL _ fun k hk => hk
  refine ⟨hgood, fun K j hK hj => ?_⟩
  obtain ⟨j, rfl⟩ : ∃ i, j = i + 1 := ⟨j - 1, by omega⟩
  show static_BoundOf_body K (grp_static_BoundOf K j).1 (grp_static_BoundOf K j).2 n = some (bndE V n)
  have hk0 : n.kids.length < K := by have := hK.2; omega
  have hl1 := kids_eq (V := V) n.kids (bndS V) (hsf K j _ hK (by omega) fun k hk => hk) (fun x hx => (hkB x hx).1) (good_none hV false) hK.1 hk0 (by omega)
  by_cases h34 : sortS n.op = 3 ∨ sortS n.op = 4
  · have hs1 : sortS n.op ≠ 1 := by omega
    have hs2 : sortS n.op ≠ 2 := by omega
    have hc39 : ∀ h : namedS n.op = true, catO n.name tick = some (n.name ++ tick) := fun h => catO_tick (hgo h).2.2
    unfold bndE
    rw [if_neg hs1, if_neg hs2]
    have h0 := op_cases h34
    clear hE hs1 hs2 h34 hL hgood
    obtain ⟨op, m, r, ks⟩ := n
    simp only [NodeA.op_mk, NodeA.name_mk, NodeA.kids_mk] at *
    rcases h0 with h | h | h | h | h | h | h | h | h | h | h | h | h <;> subst h
    · exact bb50
    · exact bb51 (hc39 (named_b (by omega)))
    · exact bb52
    · exact bb53
    · obtain ⟨hcut, hpos⟩ := flow_cut hf hb rfl
      simp only [NodeA.kids_mk] at hcut hpos
      exact bb54 hcut (kids_eq (V := V) (ks.take (ks.length - 1)) (bndS V) (hsf K j _ hK (by omega) fun k hk => List.mem_of_mem_take hk) (fun x hx => (hkB x (List.mem_of_mem_take hx)).1) (good_none hV false) hK.1 (by rw [List.length_take]; omega) (by rw [List.length_take]; omega))
    · have hn : namedS 55 = true := named_b (by omega)
      exact bb55 (hc39 hn) (static_union_eq (hgo hn).1 (hgo hn).2.1 hK.1)
    · exact bb56
    · rw [bb57, hl1]; rfl
    · rw [bb58, hl1]; rfl
    · rw [bb59, hl1]; rfl
    · rw [bb60, hl1]; rfl
    · exact bb61
    · exact bb62
  · rcases sort_cases n.op with h | h | h | h | h
    · have hno : ∀ k : Nat, 50 ≤ k → k ≤ 62 → n.op ≠ (k : Int) := fun k h1 h2 e => by
        have := sort34 (op := n.op) (by omega) (by omega)
        rw [h] at this; split at this <;> cases this
      have h50 := hno 50 (by omega) (by omega); have h51 := hno 51 (by omega) (by omega); have h52 := hno 52 (by omega) (by omega); have h53 := hno 53 (by omega) (by omega); have h54 := hno 54 (by omega) (by omega)
      have h55 := hno 55 (by omega) (by omega); have h56 := hno 56 (by omega) (by omega); have h61 := hno 61 (by omega) (by omega); have h62 := hno 62 (by omega) (by omega)
      unfold bndE
      rw [if_neg (show ¬ sortS n.op = 1 by omega), if_neg (show ¬ sortS n.op = 2 by omega), if_neg (show ¬ (n.op = 50 ∨ n.op = 52) by omega), if_neg (show ¬ n.op = 51 by omega), if_neg (show ¬ n.op = 53 by omega), if_neg (show ¬ n.op = 55 by omega), if_neg (show ¬ (n.op = 56 ∨ n.op = 61 ∨ n.op = 62) by omega), if_neg (show ¬ n.op = 54 by omega)]
      rw [bbS, h]; exact ob _ hl1 rfl
    · unfold bndE
      rw [if_pos h, bbS, h]; rfl
    · have he := (hE h).2 K j hK (by omega)
      unfold bndE
      rw [if_neg (show ¬ sortS n.op = 1 by omega), if_pos h, bbS, h]; exact he
    · exact absurd (.inl h) h34
    · exact absurd (.inr h) h34
/-! ### Everywhere -/
section
variable {K : Nat} {s1 s2 : NodeA → Option Api_NamesA} {m : ByteArray} {r : RatA} {ks : List NodeA}
theorem eb33 : static_everywhere_body K s1 s2 (.mk 33 m r ks) = (iter K (kidsR K s2 ks) (0, oneS m)).bind fun e => some e := by kernel_rfl
theorem eb34 : static_everywhere_body K s1 s2 (.mk 34 m r ks) = (iter K (kidsR K s2 ks) (0, oneS m)).bind fun e => some e := by kernel_rfl
theorem ebN {n : NodeA} (h33 : n.op ≠ 33) (h34 : n.op ≠ 34) (h : sortS n.op < 3) : static_everywhere_body K s1 s2 n = (iter K (kidsR K s2 n.kids) (0, noneS)).bind fun e => some e := by
  have b33 : (n.op == 33) = false := beq_eq_false_iff_ne.2 h33
  have b34 : (n.op == 34) = false := beq_eq_false_iff_ne.2 h34
  have b3 : decide ((3 : Int) ≤ sortS n.op) = false := decide_eq_false (by omega)
  unfold static_everywhere_body
  rw [b33, b34, tree_Sort_eq]
  generalize sortS n.op = so at b3
  refine Eq.trans (b := (((some false : Option Bool).bind fun v => if v then (static_one K n.name).bind fun r7 => some (r7.all, r7.list) else (some so).bind fun r9 => if decide ((3 : Int) ≤ r9) then (s1 n).bind fun r12 => some (r12.all, r12.list) else some (false, [])).bind fun x => (iter K (kidsR K s2 n.kids) (0, Api_NamesA.mk x.1 x.2)).bind fun e => some e)) (by kernel_rfl) ?_
  rw [Option.bind_some, if_neg (by simp), Option.bind_some, b3]; rfl
theorem ebP {n : NodeA} {B : Api_NamesA} (h33 : n.op ≠ 33) (h34 : n.op ≠ 34) (h : 3 ≤ sortS n.op) (hB : s1 n = some B) : static_everywhere_body K s1 s2 n = (iter K (kidsR K s2 n.kids) (0, B)).bind fun e => some e := by
  have b33 : (n.op == 33) = false := beq_eq_false_iff_ne.2 h33
  have b34 : (n.op == 34) = false := beq_eq_false_iff_ne.2 h34
  have b3 : decide ((3 : Int) ≤ sortS n.op) = true := decide_eq_true h
  unfold static_everywhere_body
  rw [b33, b34, tree_Sort_eq]
  generalize sortS n.op = so at b3
  refine Eq.trans (b := (((some false : Option Bool).bind fun v => if v then (static_one K n.name).bind fun r7 => some (r7.all, r7.list) else (some so).bind fun r9 => if decide ((3 : Int) ≤ r9) then (s1 n).bind fun r12 => some (r12.all, r12.list) else some (false, [])).bind fun x => (iter K (kidsR K s2 n.kids) (0, Api_NamesA.mk x.1 x.2)).bind fun e => some e)) (by kernel_rfl) ?_
  rw [Option.bind_some, if_neg (by simp), Option.bind_some, b3, if_pos rfl, hB]; rfl
end
theorem ev_at {n : NodeA} (hV : Uni V) (hf : Fine n) (hc : Cov V n) (hb : n.size ≤ big) (hkE : ∀ k ∈ n.kids, IsE V (2 * k.size + 1) k (evS V k)) {t : Nat} (ht : 2 * n.size ≤ t + 1) (hB : 3 ≤ sortS n.op → IsB V t n (bndS V n)) : IsE V (t + 1) n (evE V n) := by
  have hkl := n.kids_lt
  have hhead : Good V (if n.op = 33 ∨ n.op = 34 then oneS n.name else if 3 ≤ sortS n.op then bndS V n else noneS) := by
    split
    · exact (good_name hV hf hc (named_b (by omega))).1
    · split
      · next h => exact (hB h).1
      · exact good_none hV _
  refine ⟨good_unL hhead fun x hx => by obtain ⟨k, hk, rfl⟩ := List.mem_map.1 hx; exact (hkE k hk).1, fun K j hK hj => ?_⟩
  obtain ⟨j, rfl⟩ : ∃ i, j = i + 1 := ⟨j - 1, by omega⟩
  show static_everywhere_body K (grp_static_BoundOf K j).1 (grp_static_BoundOf K j).2 n = some (evE V n)
  have hk0 : n.kids.length < K := by have := hK.2; omega
  have hl : ∀ s0, Good V s0 → iter K (kidsR K (grp_static_BoundOf K j).2 n.kids) (0, s0) = some (unL s0 (n.kids.map (evS V))) := fun s0 h0 => kids_eq (V := V) n.kids (evS V) (fun x hx => (hkE x hx).2 K j (ks_kid hK hx) (by have := NodeA.size_lt hx; omega)) (fun x hx => (hkE x hx).1) h0 hK.1 hk0 (by omega)
  unfold evE at *
  by_cases h : n.op = 33 ∨ n.op = 34
  · rw [if_pos h] at hhead ⊢
    have hl1 := hl _ hhead
    clear hB hhead hl
    obtain ⟨op, m, r, ks⟩ := n
    simp only [NodeA.op_mk, NodeA.name_mk, NodeA.kids_mk] at *
    rcases h with h | h <;> subst h
    · rw [eb33, hl1]; rfl
    · rw [eb34, hl1]; rfl
  · rw [if_neg h] at hhead ⊢
    by_cases h3 : 3 ≤ sortS n.op
    · rw [if_pos h3] at hhead ⊢
      rw [ebP (fun e => h (.inl e)) (fun e => h (.inr e)) h3 ((hB h3).2 K j hK (by omega)), hl _ hhead]; rfl
    · rw [if_neg h3] at hhead ⊢
      rw [ebN (fun e => h (.inl e)) (fun e => h (.inr e)) (by omega), hl _ hhead]; rfl
theorem bound_ev (hV : Uni V) : ∀ n : NodeA, Fine n → Cov V n → n.size ≤ big → (IsB V (2 * n.size + 1) n (bndS V n) ∧ bndS V n = bndE V n) ∧ IsE V (2 * n.size + 1) n (evS V n) ∧ evS V n = evE V n := by
  refine NodeA.ind fun n ih => ?_
  intro hf hc hb
  have hk : ∀ k ∈ n.kids, (IsB V (2 * k.size + 1) k (bndS V k) ∧ bndS V k = bndE V k) ∧ IsE V (2 * k.size + 1) k (evS V k) ∧ evS V k = evE V k := fun k hk => ih k hk (fine_kid hf hk) (cov_kid hc hk) (by have := NodeA.size_lt hk; omega)
  have hp := n.size_pos
  by_cases h2 : sortS n.op = 2
  · have he := ev_at (t := 2 * n.size - 1) hV hf hc hb (fun k h => (hk k h).2.1) (by omega) (fun h => by omega)
    have he' := ev_of he (by omega)
    have hbn := bound_at (t := 2 * n.size) hV hf hc hb (fun k h => (hk k h).1.1) (by omega) (fun _ => ⟨he'.1.1, fun K j hK hj => by rw [he'.2]; exact he.2 K j hK (by omega)⟩)
    exact ⟨bnd_of hbn (by omega), he'⟩
  · have hbn := bound_at (t := 2 * n.size - 1) hV hf hc hb (fun k h => (hk k h).1.1) (by omega) (fun h => absurd h h2)
    have hb' := bnd_of hbn (by omega)
    have he := ev_at (t := 2 * n.size) hV hf hc hb (fun k h => (hk k h).2.1) (by omega) (fun _ => ⟨hb'.1.1, fun K j hK hj => by rw [hb'.2]; exact hbn.2 K j hK (by omega)⟩)
    exact ⟨hb', ev_of he (by omega)⟩
/-! ### Must-bound variables -/
def mustR (K : Nat) (L : List NodeA) : (Int × Api_NamesA → Option Api_NamesA) → Int × Api_NamesA → Option Api_NamesA := fun again x =>
  if decide (x.1 < (L.length : Int)) then ((idx L x.1).bind fun x22 => if (x22.op == (55 : Int)) then (static_BoundOf K x22).bind fun r25 => (static_union K x.2 r25).bind fun r27 => some r27 else some x.2).bind fun v => again (IntKind.wrap .i64 (x.1 + (1 : Int)), v) else some x.2
section
variable {K : Nat} {s : NodeA → Option Api_NamesA} {m : ByteArray} {r : RatA} {ks : List NodeA}
theorem mb50 {B : Api_NamesA} {n : NodeA} (h : n.op = 50 ∨ n.op = 51 ∨ n.op = 52) (hB : static_BoundOf K n = some B) : static_MustOf_body K s n = some B := by
  obtain ⟨op, m, r, ks⟩ := n
  simp only [NodeA.op_mk] at h
  unfold static_MustOf_body
  generalize static_BoundOf K = bf at hB ⊢
  rcases h with rfl | rfl | rfl
  · exact ob _ (Eq.trans (b := (bf (.mk 50 m r ks)).bind fun r8 => outM (some r8)) (by kernel_rfl) (ob _ hB rfl)) rfl
  · exact ob _ (Eq.trans (b := (bf (.mk 51 m r ks)).bind fun r8 => outM (some r8)) (by kernel_rfl) (ob _ hB rfl)) rfl
  · exact ob _ (Eq.trans (b := (bf (.mk 52 m r ks)).bind fun r8 => outM (some r8)) (by kernel_rfl) (ob _ hB rfl)) rfl
theorem mb54 {u : Api_NamesA} (hu : iter K (mustR K ks) (0, noneS) = some u) : static_MustOf_body K s (.mk 54 m r ks) = some u := by
  unfold static_MustOf_body
  exact ob _ (Eq.trans (b := (iter K (mustR K ks) (0, noneS)).bind fun e => some (.go (e.all, e.list))) (by kernel_rfl) (ob _ hu rfl)) rfl
theorem mb57 {k0 k1 : NodeA} {a b u : Api_NamesA} (h0 : s k0 = some a) (h1 : s k1 = some b) (hu : static_union K a b = some u) : static_MustOf_body K s (.mk 57 m r [k0, k1]) = some u := by
  unfold static_MustOf_body
  exact ob _ (Eq.trans (b := (s k0).bind fun x => (s k1).bind fun y => (static_union K x y).bind fun z => outM (some z)) (by kernel_rfl) (ob _ h0 (ob _ h1 (ob _ hu rfl)))) rfl
theorem mb58 {k0 k1 : NodeA} {a b u : Api_NamesA} (h0 : s k0 = some a) (h1 : s k1 = some b) (hu : static_meet K a b = some u) : static_MustOf_body K s (.mk 58 m r [k0, k1]) = some u := by
  unfold static_MustOf_body
  exact ob _ (Eq.trans (b := (s k0).bind fun x => (s k1).bind fun y => (static_meet K x y).bind fun z => outM (some z)) (by kernel_rfl) (ob _ h0 (ob _ h1 (ob _ hu rfl)))) rfl
theorem mb60 {k0 : NodeA} {a : Api_NamesA} (h0 : s k0 = some a) : static_MustOf_body K s (.mk 60 m r [k0]) = some a := by
  unfold static_MustOf_body
  exact ob _ (Eq.trans (b := (s k0).bind fun x => outM (some x)) (by kernel_rfl) (ob _ h0 rfl)) rfl
theorem mbN {n : NodeA} (h50 : n.op ≠ 50) (h51 : n.op ≠ 51) (h52 : n.op ≠ 52) (h54 : n.op ≠ 54) (h57 : n.op ≠ 57) (h58 : n.op ≠ 58) (h60 : n.op ≠ 60) : static_MustOf_body K s n = some noneS := by
  unfold static_MustOf_body
  rw [beq_eq_false_iff_ne.2 h50, beq_eq_false_iff_ne.2 h51, beq_eq_false_iff_ne.2 h52, beq_eq_false_iff_ne.2 h54, beq_eq_false_iff_ne.2 h57, beq_eq_false_iff_ne.2 h58, beq_eq_false_iff_ne.2 h60]
  kernel_rfl
end
def IsM (V : List ByteArray) (t : Nat) (n : NodeA) (F : Api_NamesA) : Prop := Good V F ∧ ∀ K j, KS V n K → t < j → iter j (fun self q => static_MustOf_body K self q) n = some F
theorem must_loop {n : NodeA} {K : Nat} (hV : Uni V) (hK : KS V n K) (hb : n.size ≤ big) (hkB : ∀ k ∈ n.kids, IsB V (2 * k.size + 1) k (bndS V k)) :
    iter K (mustR K n.kids) (0, noneS) = some (unL noneS ((n.kids.filter fun k => k.op == 55).map (bndS V))) := by
  have hkl := n.kids_lt
  have hb' := hb
  unfold big at hb'
  have hg : ∀ l : List NodeA, (∀ k ∈ l, k ∈ n.kids) → Good V (unL noneS ((l.filter fun k => k.op == 55).map (bndS V))) := fun l hl => good_unL (good_none hV _) fun x hx => by
    obtain ⟨k, hk, rfl⟩ := List.mem_map.1 hx
    exact (hkB k (hl k (List.mem_filter.1 hk).1)).1
  refine foldG n.kids.length (fun i => ((i : Int), unL noneS (((n.kids.take i).filter fun k => k.op == 55).map (bndS V)))) _ (fun g i hi => ?_) (fun g => ?_) (by have := hK.2; omega) rfl
  · have hx : n.kids[i]? = some n.kids[i] := List.getElem?_eq_getElem hi
    have hm := List.getElem_mem hi
    have hd : decide ((i : Int) < (n.kids.length : Int)) = true := decide_eq_true (by omega)
    have hB : static_BoundOf K n.kids[i] = some (bndS V n.kids[i]) := (hkB _ hm).2 K K (ks_kid hK hm) (by have := (ks_kid hK hm).2; omega)
    have hu := static_union_eq (hg (n.kids.take i) fun k hk => List.mem_of_mem_take hk) (hkB _ hm).1 hK.1
    have et : n.kids.take (i + 1) = n.kids.take i ++ [n.kids[i]] := by rw [List.take_add_one, hx]; rfl
    unfold mustR
    simp only [hd, if_true, idx_nat, hx, Option.bind_some]
    rw [w64s (by omega), et, List.filter_append]
    cases h : n.kids[i].op == 55 with
    | true =>
      rw [if_pos rfl, hB]
      simp only [Option.bind_some]
      rw [hu]
      simp only [Option.bind_some, List.filter_cons, h, if_true, List.filter_nil, List.map_append, List.map_cons, List.map_nil]
      simp only [unL, List.foldl_append, List.foldl_cons, List.foldl_nil]
    | false =>
      rw [if_neg (by simp)]
      simp only [Option.bind_some, List.filter_cons, h, List.filter_nil, List.map_append, List.map_nil, List.append_nil, Bool.false_eq_true, if_false]
  · have hd : decide ((n.kids.length : Int) < (n.kids.length : Int)) = false := by simp
    unfold mustR
    simp only [hd, Bool.false_eq_true, if_false, List.take_length]
end
end Go.Proofs.YtngmfimpaembnaaGreatDoor
namespace Go.Proofs.YtngmfimpaembnaaGreatDoor
open Go Go.Iso Go.Proofs
set_option linter.unusedSimpArgs false
set_option linter.unusedVariables false
set_option maxRecDepth 100000
/-! ### Free variables -/
section
variable {K : Nat} {s : NodeA → Option Api_NamesA} {m : ByteArray} {r : RatA} {ks : List NodeA}
theorem fb2 : static_FreeOf_body K s (.mk 2 m r ks) = some (oneS m) := by
  unfold static_FreeOf_body
  simp only [NodeA.name_mk]
  generalize catO m ⟨#[39]⟩ = c
  kernel_rfl
theorem fb3 {x : ByteArray} (hc : catO m tick = some x) : static_FreeOf_body K s (.mk 3 m r ks) = some (oneS x) := by
  unfold static_FreeOf_body
  simp only [NodeA.name_mk]
  generalize catO m ⟨#[39]⟩ = c at hc ⊢
  subst hc
  kernel_rfl
theorem fbA {n : NodeA} (h : n.op = 11 ∨ n.op = 38 ∨ n.op = 61 ∨ n.op = 62 ∨ n.op = 56) : static_FreeOf_body K s n = some allS := by
  obtain ⟨op, m, r, ks⟩ := n
  simp only [NodeA.op_mk] at h
  unfold static_FreeOf_body
  simp only [NodeA.name_mk]
  generalize catO m ⟨#[39]⟩ = c
  rcases h with rfl | rfl | rfl | rfl | rfl <;> kernel_rfl
theorem fb52 : static_FreeOf_body K s (.mk 52 m r ks) = some noneS := by
  unfold static_FreeOf_body
  simp only [NodeA.name_mk]
  generalize catO m ⟨#[39]⟩ = c
  kernel_rfl
theorem fb12 {op : Int} {k0 : NodeA} {a F : Api_NamesA} (h : op = 12 ∨ op = 39) (h0 : s k0 = some a) (hp : static_primes K a = some F) : static_FreeOf_body K s (.mk op m r [k0]) = some F := by
  unfold static_FreeOf_body
  simp only [NodeA.name_mk]
  generalize catO m ⟨#[39]⟩ = c
  generalize static_primes K = P at hp ⊢
  rcases h with rfl | rfl
  · exact ob _ (Eq.trans (b := (s k0).bind fun x => (P x).bind fun y => outM (some y)) (by kernel_rfl) (ob _ h0 (ob _ hp rfl))) rfl
  · exact ob _ (Eq.trans (b := (s k0).bind fun x => (P x).bind fun y => outM (some y)) (by kernel_rfl) (ob _ h0 (ob _ hp rfl))) rfl
theorem fb33 {op : Int} {k0 : NodeA} {a F : Api_NamesA} (h : op = 33 ∨ op = 34) (h0 : s k0 = some a) (hp : static_minus K a (oneS m) = some F) : static_FreeOf_body K s (.mk op m r [k0]) = some F := by
  unfold static_FreeOf_body
  simp only [NodeA.name_mk]
  generalize catO m ⟨#[39]⟩ = c
  generalize static_minus K = P at hp ⊢
  rcases h with rfl | rfl
  · exact ob _ (Eq.trans (b := (s k0).bind fun x => (P x (oneS m)).bind fun y => outM (some y)) (by kernel_rfl) (ob _ h0 (ob _ hp rfl))) rfl
  · exact ob _ (Eq.trans (b := (s k0).bind fun x => (P x (oneS m)).bind fun y => outM (some y)) (by kernel_rfl) (ob _ h0 (ob _ hp rfl))) rfl
theorem fb57 {op : Int} {k0 k1 : NodeA} {a b M d u : Api_NamesA} (h : op = 35 ∨ op = 36 ∨ op = 57) (h0 : s k0 = some a) (h1 : s k1 = some b) (hM : static_MustOf K k0 = some M) (hd : static_minus K b M = some d) (hu : static_union K a d = some u) : static_FreeOf_body K s (.mk op m r [k0, k1]) = some u := by
  unfold static_FreeOf_body
  simp only [NodeA.name_mk]
  generalize catO m ⟨#[39]⟩ = c
  generalize static_minus K = P at hd ⊢
  generalize static_union K = U at hu ⊢
  generalize static_MustOf K = T at hM ⊢
  rcases h with rfl | rfl | rfl
  · exact ob _ (Eq.trans (b := (s k0).bind fun x => (s k1).bind fun y => (T k0).bind fun z => (P y z).bind fun w => (U x w).bind fun v => outM (some v)) (by kernel_rfl) (ob _ h0 (ob _ h1 (ob _ hM (ob _ hd (ob _ hu rfl)))))) rfl
  · exact ob _ (Eq.trans (b := (s k0).bind fun x => (s k1).bind fun y => (T k0).bind fun z => (P y z).bind fun w => (U x w).bind fun v => outM (some v)) (by kernel_rfl) (ob _ h0 (ob _ h1 (ob _ hM (ob _ hd (ob _ hu rfl)))))) rfl
  · exact ob _ (Eq.trans (b := (s k0).bind fun x => (s k1).bind fun y => (T k0).bind fun z => (P y z).bind fun w => (U x w).bind fun v => outM (some v)) (by kernel_rfl) (ob _ h0 (ob _ h1 (ob _ hM (ob _ hd (ob _ hu rfl)))))) rfl
theorem fb55 : static_FreeOf_body K s (.mk 55 m r ks) = (iter K (kidsR K s ks) (0, oneS m)).bind fun e => some e := by
  unfold static_FreeOf_body
  simp only [NodeA.name_mk]
  generalize catO m ⟨#[39]⟩ = c
  kernel_rfl
theorem fbN {n : NodeA} (h2 : n.op ≠ 2) (h3 : n.op ≠ 3) (h11 : n.op ≠ 11) (h38 : n.op ≠ 38) (h61 : n.op ≠ 61) (h62 : n.op ≠ 62) (h56 : n.op ≠ 56) (h12 : n.op ≠ 12) (h39 : n.op ≠ 39) (h33 : n.op ≠ 33) (h34 : n.op ≠ 34) (h35 : n.op ≠ 35) (h36 : n.op ≠ 36) (h57 : n.op ≠ 57) (h52 : n.op ≠ 52) (h55 : n.op ≠ 55) : static_FreeOf_body K s n = (iter K (kidsR K s n.kids) (0, noneS)).bind fun e => some e := by
  unfold static_FreeOf_body
  rw [beq_eq_false_iff_ne.2 h2, beq_eq_false_iff_ne.2 h3, beq_eq_false_iff_ne.2 h11, beq_eq_false_iff_ne.2 h38, beq_eq_false_iff_ne.2 h61, beq_eq_false_iff_ne.2 h62, beq_eq_false_iff_ne.2 h56, beq_eq_false_iff_ne.2 h12, beq_eq_false_iff_ne.2 h39, beq_eq_false_iff_ne.2 h33, beq_eq_false_iff_ne.2 h34, beq_eq_false_iff_ne.2 h35, beq_eq_false_iff_ne.2 h36, beq_eq_false_iff_ne.2 h57, beq_eq_false_iff_ne.2 h52, beq_eq_false_iff_ne.2 h55]
  generalize catO n.name ⟨#[39]⟩ = c
  kernel_rfl
end
section
variable {V : List ByteArray}
def IsF (V : List ByteArray) (t : Nat) (n : NodeA) (F : Api_NamesA) : Prop := Good V F ∧ ∀ K j, KS V n K → t < j → iter j (fun self q => static_FreeOf_body K self q) n = some F
theorem pick {P : NodeA → Api_NamesA → Prop} {l : List NodeA} (h : ∀ k ∈ l, ∃ F, P k F) : ∃ f : NodeA → Api_NamesA, ∀ k ∈ l, P k (f k) :=
  ⟨fun k => Classical.epsilon (h := ⟨noneS⟩) (P k), fun k hk => Classical.epsilon_spec (h k hk)⟩
end
end Go.Proofs.YtngmfimpaembnaaGreatDoor
namespace Go.Proofs.YtngmfimpaembnaaGreatDoor
open Go Go.Iso Go.Proofs
set_option linter.unusedSimpArgs false
set_option linter.unusedVariables false
set_option maxRecDepth 100000
/-! ### The reference's sets -/
theorem good_ext {V : List ByteArray} {A B : Api_NamesA} (ha : Good V A) (hb : Good V B) (h1 : A.all = B.all) (h2 : ∀ v, inS A v = inS B v) : A = B := by
  obtain ⟨a, l⟩ := A
  obtain ⟨b, m⟩ := B
  simp only at h1
  subst h1
  have : l = m := ext_sp ha.sp hb.sp fun x => by
    have h := h2 x
    unfold inS at h
    have h' : pB (x ∈ l) = pB (x ∈ m) := by
      simp only at h
      revert h
      cases pB (x ∈ l) <;> cases pB (x ∈ m) <;> cases a <;> simp
    exact ⟨fun k => pB_true.1 (h' ▸ pB_true.2 k), fun k => pB_true.1 (h'.symm ▸ pB_true.2 k)⟩
  rw [this]
theorem sp_filter {l : List ByteArray} {q : ByteArray → Bool} (h : SP l) : SP (l.filter q) := List.Pairwise.filter q h
theorem listed_eq {K : Nat} {l : List ByteArray} {v : ByteArray} (hl : l.length < K) (hb : l.length ≤ big) : r10_listed K l v = some (pB (v ∈ l)) := by
  unfold r10_listed
  refine ob _ (scan_any (l := l) (q := fun x => x.toList == v.toList) hl hb (fun g i x hx => ?_) fun g i hi => ?_) ?_
  · obtain ⟨hlt, rfl⟩ := List.getElem?_eq_some_iff.1 hx
    simp only [lt_tn hlt, if_true, idx_nat, hx, Option.bind_some, outM_eq]
  · simp only [lt_fn hi, Bool.false_eq_true, if_false]
  · have e : l.any (fun x => x.toList == v.toList) = pB (v ∈ l) := by
      rw [Bool.eq_iff_iff, pB_true, List.any_eq_true]
      exact ⟨fun ⟨x, hx, h⟩ => eqB.1 h ▸ hx, fun h => ⟨v, h, eqB.2 rfl⟩⟩
    rw [e]
    cases pB (v ∈ l) <;> rfl
theorem kept_eq {K : Nat} {a b : List ByteArray} {c : Bool} (ha : a.length < K) (hb : b.length < K) (hab : a.length ≤ topV) (hbb : b.length ≤ topV) : r10_kept K a b c = some (a.filter fun x => pB (x ∈ b) == c) := by
  have ht : topV = 1000000000000 := rfl
  unfold r10_kept
  refine ob _ (foldG a.length (fun i => ((i : Int), (a.take i).filter fun x => pB (x ∈ b) == c)) (a.filter fun x => pB (x ∈ b) == c) (fun g i hi => ?_) (fun g => ?_) ha rfl) rfl
  · have hx : a[i]? = some a[i] := List.getElem?_eq_getElem hi
    have et : a.take (i + 1) = a.take i ++ [a[i]] := by rw [List.take_add_one, hx]; rfl
    have hl : ((a.take i).filter fun x => pB (x ∈ b) == c).length ≤ 4 * topV := by
      have := List.length_filter_le (fun x => pB (x ∈ b) == c) (a.take i); rw [List.length_take] at this; omega
    simp only [lt_tn hi, if_true, idx_nat, hx, Option.bind_some, listed_eq (v := a[i]) hb (show b.length ≤ big by unfold big; omega), appO_one hl]
    rw [w64s (by omega), et, List.filter_append]
    cases h : pB (a[i] ∈ b) == c with
    | true => simp only [if_true, Option.bind_some, List.filter_cons, h, List.filter_nil]
    | false => simp only [Bool.false_eq_true, if_false, Option.bind_some, List.filter_cons, h, List.filter_nil, List.append_nil]
  · simp only [lt_fn (Nat.le_refl a.length), Bool.false_eq_true, if_false, List.take_length]
def wiS (v : ByteArray) : List ByteArray → List ByteArray
  | [] => [v]
  | x :: l => if ltS x v = true then x :: wiS v l else v :: ((x :: l).filter fun z => !(z.toList == v.toList))
theorem mem_wiS {v x : ByteArray} : ∀ {l : List ByteArray}, x ∈ wiS v l ↔ x = v ∨ x ∈ l
  | [] => by simp [wiS]
  | z :: l => by
    unfold wiS
    split
    · rw [List.mem_cons, mem_wiS, List.mem_cons]
      constructor
      · rintro (h | h | h)
        · exact .inr (.inl h)
        · exact .inl h
        · exact .inr (.inr h)
      · rintro (h | h | h)
        · exact .inr (.inl h)
        · exact .inl h
        · exact .inr (.inr h)
    · rw [List.mem_cons, List.mem_filter]
      by_cases e : x = v
      · simp [e]
      · simp [e, neB e]
theorem sp_wiS {v : ByteArray} : ∀ {l : List ByteArray}, SP l → SP (wiS v l)
  | [], _ => by simp [wiS]
  | z :: l, h => by
    obtain ⟨h1, h2⟩ := List.pairwise_cons.1 h
    unfold wiS
    split
    · next hz =>
      refine List.pairwise_cons.2 ⟨fun y hy => ?_, sp_wiS h2⟩
      rcases mem_wiS.1 hy with rfl | hy
      · exact hz
      · exact h1 y hy
    · next hz =>
      refine List.pairwise_cons.2 ⟨fun y hy => ?_, sp_filter h⟩
      obtain ⟨hy1, hy2⟩ := List.mem_filter.1 hy
      have hne : y ≠ v := fun e => by subst e; rw [eqB.2 rfl] at hy2; simp at hy2
      have hvz : v = z ∨ ltS v z = true := by
        rcases lt_total z v with k | k | k
        · exact absurd k hz
        · exact .inl k.symm
        · exact .inr k
      rcases List.mem_cons.1 hy1 with e | hy1
      · rw [e] at hne ⊢; exact hvz.resolve_left fun e => hne e.symm
      · have hl := h1 y hy1
        rcases hvz with e | hvz
        · rw [e]; exact hl
        · exact lt_trans' hvz hl
theorem wiS_len {v : ByteArray} : ∀ {l : List ByteArray}, (wiS v l).length ≤ l.length + 1
  | [] => by simp [wiS]
  | z :: l => by
    unfold wiS
    split
    · have := wiS_len (v := v) (l := l); simp; omega
    · have := List.length_filter_le (fun z => !(z.toList == v.toList)) (z :: l); simp at this ⊢; omega
def wiR (v : ByteArray) (put : Bool) (l : List ByteArray) : Bool × List ByteArray := if put then (true, l.filter fun z => !(z.toList == v.toList)) else
  if l.all fun z => ltS z v then (false, l) else (true, wiS v l)
theorem with_eq {K : Nat} {l : List ByteArray} {v : ByteArray} (hs : SP l) (hl : l.length < K) (hb : l.length ≤ 2 * topV) : r10_with K l v = some (wiS v l) := by
  have ht : topV = 1000000000000 := rfl
  have hend : ∀ l : List ByteArray, (l.all fun z => ltS z v) = true → wiS v l = l ++ [v] := by
    intro l
    induction l with
    | nil => intro _; rfl
    | cons z l ih =>
      intro h
      rw [List.all_cons, Bool.and_eq_true] at h
      unfold wiS
      rw [if_pos h.1, ih h.2]; rfl
  unfold r10_with
  refine ob (wiR v false l) ?_ ?_
  · refine (iter_eq (S := Bool × Int × List ByteArray) (R := Bool × List ByteArray) (fun s => some ((wiR v s.1 (l.drop s.2.1.toNat)).1, s.2.2 ++ (wiR v s.1 (l.drop s.2.1.toNat)).2))
      (fun s => ∃ i : Nat, s.2.1 = i ∧ i ≤ l.length ∧ s.2.2.length ≤ i + (if s.1 = true then 1 else 0)) (fun s => l.length - s.2.1.toNat) ?_ K (false, 0, []) ⟨0, rfl, Nat.zero_le _, by simp⟩ (by simpa using hl)).trans ?_
    rotate_left
    · simp
    rintro ⟨put, z, out⟩ ⟨i, h1, hi, ho⟩ g hg
    simp only at h1 ho
    subst h1
    simp only [Int.toNat_natCast]
    by_cases hi' : i < l.length
    · have hx : l[i]? = some l[i] := List.getElem?_eq_getElem hi'
      have hsd : SP (l[i] :: l.drop (i + 1)) := by rw [← List.drop_eq_getElem_cons hi']; exact hs.sublist (List.drop_sublist _ _)
      obtain ⟨hs1, hs2⟩ := List.pairwise_cons.1 hsd
      rw [List.drop_eq_getElem_cons hi']
      simp only [lt_tn hi', if_true, idx_nat, hx, Option.bind_some]
      cases put with
      | true =>
        simp only [if_true] at ho
        simp only [Bool.not_true, Bool.false_eq_true, if_false, Option.bind_some]
        have e0 : ∀ l, wiR v true l = (true, l.filter fun z => !(z.toList == v.toList)) := fun l => by unfold wiR; rw [if_pos rfl]
        cases hv : l[i].toList == v.toList with
        | true =>
          simp only [Bool.not_true, Bool.false_eq_true, if_false, Option.bind_some]
          rw [w64s (by omega), hg _ ⟨i + 1, rfl, hi', by simp; omega⟩ (by simp only [Int.toNat_natCast]; omega)]
          simp only [Int.toNat_natCast, e0, List.filter_cons, hv, Bool.not_true, Bool.false_eq_true, if_false]
        | false =>
          simp only [Bool.not_false, if_true, appO_one (show out.length ≤ 4 * topV by omega), Option.bind_some]
          rw [w64s (by omega), hg _ ⟨i + 1, rfl, hi', by simp; omega⟩ (by simp only [Int.toNat_natCast]; omega)]
          simp only [Int.toNat_natCast, e0, List.filter_cons, hv, Bool.not_false, if_true, List.append_assoc, List.cons_append, List.nil_append]
      | false =>
        simp only [Bool.false_eq_true, if_false, Nat.add_zero] at ho
        simp only [Bool.not_false, if_true, Option.bind_some]
        cases hlt : Op.bytesLess l[i].toList v.toList with
        | true =>
          have hlt' : ltS l[i] v = true := hlt
          have hne : (l[i].toList == v.toList) = false := neB (lt_ne hlt')
          simp only [Bool.not_true, Bool.false_eq_true, if_false, Option.bind_some, hne, Bool.not_false, if_true, appO_one (show out.length ≤ 4 * topV by omega)]
          rw [w64s (by omega), hg _ ⟨i + 1, rfl, hi', by simp; omega⟩ (by simp only [Int.toNat_natCast]; omega)]
          simp only [Int.toNat_natCast]
          unfold wiR
          simp only [Bool.false_eq_true, if_false, List.all_cons, hlt', Bool.true_and]
          cases hall : (l.drop (i + 1)).all fun z => ltS z v with
          | true => simp
          | false =>
            have : wiS v (l[i] :: l.drop (i + 1)) = l[i] :: wiS v (l.drop (i + 1)) := by rw [wiS, if_pos hlt']
            simp only [Bool.false_eq_true, if_false, this, List.append_assoc, List.cons_append, List.nil_append]
        | false =>
          have hlt' : ltS l[i] v = false := hlt
          simp only [Bool.not_false, if_true, appO_one (show out.length ≤ 4 * topV by omega), Option.bind_some]
          have e1 : wiR v false (l[i] :: l.drop (i + 1)) = (true, v :: ((l[i] :: l.drop (i + 1)).filter fun z => !(z.toList == v.toList))) := by
            unfold wiR
            simp only [Bool.false_eq_true, if_false, List.all_cons, hlt', Bool.false_and]
            rw [wiS, if_neg (by rw [hlt']; simp)]
          have e0 : ∀ l, wiR v true l = (true, l.filter fun z => !(z.toList == v.toList)) := fun l => by unfold wiR; rw [if_pos rfl]
          rw [e1]
          cases hv : l[i].toList == v.toList with
          | true =>
            simp only [Bool.not_true, Bool.false_eq_true, if_false, Option.bind_some]
            rw [w64s (by omega), hg _ ⟨i + 1, rfl, hi', by simp; omega⟩ (by simp only [Int.toNat_natCast]; omega)]
            simp only [Int.toNat_natCast, e0, List.filter_cons, hv, Bool.not_true, Bool.false_eq_true, if_false, List.append_assoc, List.cons_append, List.nil_append]
          | false =>
            simp only [Bool.not_false, if_true, appO_one (show (out ++ [v]).length ≤ 4 * topV by simp; omega), Option.bind_some]
            rw [w64s (by omega), hg _ ⟨i + 1, rfl, hi', by simp; omega⟩ (by simp only [Int.toNat_natCast]; omega)]
            simp only [Int.toNat_natCast, e0, List.filter_cons, hv, Bool.not_false, if_true, List.append_assoc, List.cons_append, List.nil_append]
    · have hie : i = l.length := by omega
      subst hie
      simp only [lt_fn (Nat.le_refl l.length), Bool.false_eq_true, if_false, List.drop_length]
      unfold wiR
      cases put <;> simp
  · unfold wiR
    simp only [Bool.false_eq_true, if_false]
    cases hall : l.all fun z => ltS z v with
    | true =>
      simp only [if_true, Bool.not_false, appO_one (show l.length ≤ 4 * topV by omega), Option.bind_some]
      rw [hend l hall]
    | false => simp
def botS (a b : List ByteArray) : List ByteArray := b.foldl (fun s v => wiS v s) a
theorem botS_sp : ∀ {b a : List ByteArray}, SP a → SP (botS a b)
  | [], _, h => h
  | v :: b, a, h => botS_sp (b := b) (sp_wiS h)
theorem botS_mem {x : ByteArray} : ∀ {b a : List ByteArray}, x ∈ botS a b ↔ x ∈ a ∨ x ∈ b
  | [], a => by simp [botS]
  | v :: b, a => by
    show x ∈ botS (wiS v a) b ↔ _
    rw [botS_mem, mem_wiS, List.mem_cons]
    constructor
    · rintro ((h | h) | h)
      · exact .inr (.inl h)
      · exact .inl h
      · exact .inr (.inr h)
    · rintro (h | h | h)
      · exact .inl (.inr h)
      · exact .inl (.inl h)
      · exact .inr h
theorem botS_len : ∀ {b a : List ByteArray}, (botS a b).length ≤ a.length + b.length
  | [], _ => by simp [botS]
  | v :: b, a => by
    show (botS (wiS v a) b).length ≤ _
    have h1 := botS_len (b := b) (a := wiS v a)
    have h2 := wiS_len (v := v) (l := a)
    simp; omega
theorem both_eq {K : Nat} {a b : List ByteArray} (hs : SP a) (hK : a.length + b.length < K) (ha : a.length ≤ topV) (hb : b.length ≤ topV) : r10_both K a b = some (botS a b) := by
  have ht : topV = 1000000000000 := rfl
  unfold r10_both
  refine ob _ (foldG b.length (fun i => (botS a (b.take i), (i : Int))) (botS a b) (fun g i hi => ?_) (fun g => ?_) (by omega) rfl) rfl
  · have hx : b[i]? = some b[i] := List.getElem?_eq_getElem hi
    have et : b.take (i + 1) = b.take i ++ [b[i]] := by rw [List.take_add_one, hx]; rfl
    have hl := botS_len (a := a) (b := b.take i)
    rw [List.length_take] at hl
    simp only [lt_tn hi, if_true, idx_nat, hx, Option.bind_some, with_eq (v := b[i]) (botS_sp (b := b.take i) hs) (show (botS a (b.take i)).length < K by omega) (by omega)]
    rw [w64s (by omega), et]
    unfold botS
    rw [List.foldl_append]; rfl
  · simp only [lt_fn (Nat.le_refl b.length), Bool.false_eq_true, if_false, List.take_length]
section
variable {V : List ByteArray} {A B : Api_NamesA} {K : Nat}
theorem join_eq (ha : Good V A) (hb : Good V B) (hK : KOk V K) : r10_join K A B = some (unionS A B) := by
  have h1 := ha.len
  have h2 := hb.len
  have h3 := hK.2
  have f1 : ∀ c, A.list.filter (fun x => pB (x ∈ B.list) == c) = mixS (!c) c false A.list B.list := fun c => ext_sp (sp_filter ha.sp) (sp_mix ha.sp hb.sp) fun x => by
    rw [mem_mix ha.sp hb.sp, List.mem_filter, beq_iff_eq]
    by_cases q1 : x ∈ A.list <;> by_cases q2 : x ∈ B.list <;> cases c <;> simp [q1, q2, pB_true.2, pB_false.2]
  have f2 : B.list.filter (fun x => pB (x ∈ A.list) == false) = mixS false false true A.list B.list := ext_sp (sp_filter hb.sp) (sp_mix ha.sp hb.sp) fun x => by
    rw [mem_mix ha.sp hb.sp, List.mem_filter, beq_iff_eq]
    by_cases q1 : x ∈ A.list <;> by_cases q2 : x ∈ B.list <;> simp [q1, q2, pB_true.2, pB_false.2]
  have f3 : botS A.list B.list = mixS true true true A.list B.list := ext_sp (botS_sp ha.sp) (sp_mix ha.sp hb.sp) fun x => by
    rw [mem_mix ha.sp hb.sp, botS_mem]
    by_cases q1 : x ∈ A.list <;> by_cases q2 : x ∈ B.list <;> simp [q1, q2]
  have k1 : ∀ c, r10_kept K A.list B.list c = some (mixS (!c) c false A.list B.list) := fun c => by rw [kept_eq (by omega) (by omega) ha.lt hb.lt, f1 c]
  have k2 : r10_kept K B.list A.list false = some (mixS false false true A.list B.list) := by rw [kept_eq (by omega) (by omega) hb.lt ha.lt, f2]
  have k3 : r10_both K A.list B.list = some (mixS true true true A.list B.list) := by rw [both_eq ha.sp (by omega) ha.lt hb.lt, f3]
  unfold r10_join unionS
  simp only [k1, k2, k3, Option.bind_some]
  cases A.all <;> cases B.all <;> rfl
theorem meet_eq (ha : Good V A) (hb : Good V B) (hK : KOk V K) : r10_meet K A B = some (meetS A B) := by
  unfold r10_meet r10_other
  simp only [Option.bind_some]
  exact ob _ (join_eq (good_not ha) (good_not hb) hK) rfl
theorem minus_eq (ha : Good V A) (hb : Good V B) (hK : KOk V K) : r10_minus K A B = some (minusS A B) := by
  unfold r10_minus r10_other
  simp only [Option.bind_some]
  exact ob _ (meet_eq ha (good_not hb) hK) rfl
theorem same_eq (hl : A.list.length < K) (hb : A.list.length ≤ topV) : r10_Same K A A = some true := by
  have ht : topV = 1000000000000 := rfl
  have e1 : (!(A.all == A.all)) = false := by simp
  have e2 : ((A.list.length : Int) != (A.list.length : Int)) = false := by simp
  unfold r10_Same
  rw [e1, e2]
  simp only [Bool.false_eq_true, if_false, Option.bind_some, Out.fin_go]
  refine ob (Out.go () : Out Unit Bool) (foldG A.list.length (fun i => (i : Int)) (Out.go () : Out Unit Bool) (fun g i hi => ?_) (fun g => ?_) hl rfl) rfl
  · have hx : A.list[i]? = some A.list[i] := List.getElem?_eq_getElem hi
    simp only [lt_tn hi, if_true, idx_nat, hx, Option.bind_some, beq_self_eq_true, Bool.not_true, Bool.false_eq_true, if_false]
    rw [w64s (by omega)]
  · simp only [lt_fn (Nat.le_refl A.list.length), Bool.false_eq_true, if_false]
end
end Go.Proofs.YtngmfimpaembnaaGreatDoor
namespace Go.Proofs.YtngmfimpaembnaaGreatDoor
open Go Go.Iso Go.Proofs
set_option linter.unusedSimpArgs false
set_option linter.unusedVariables false
set_option maxRecDepth 100000
theorem att_map {α : Type} {f : NodeA → α} {ks : List NodeA} : (ks.attach.map fun x => match x with | ⟨k, _⟩ => f k) = ks.map f := by simp
/-! ### The reference's free, bound and must-bound variables, as functions -/
abbrev nthS (L : List Api_NamesA) (i : Nat) : Api_NamesA := L.getD i noneS
def tickB (v : ByteArray) : Bool := v[v.size - 1]? == some 39
def primF (o : Api_NamesA) (v : ByteArray) : Api_NamesA := if tickB v then o else unionS o (oneS (v ++ tick))
def prmS (s : Api_NamesA) : Api_NamesA := s.list.foldl primF s
def flowM (s : Api_NamesA) (k : NodeA) : Api_NamesA := if k.op == 55 then unionS s (unionS (oneS k.name) (oneS (k.name ++ tick))) else s
def mustB (op : Int) (m : ByteArray) (ks : List NodeA) (L : List Api_NamesA) : Api_NamesA :=
  if op = 50 ∨ op = 52 then oneS m else if op = 51 then oneS (m ++ tick) else if op = 54 then ks.foldl flowM noneS
  else if op = 57 then unionS (nthS L 0) (nthS L 1) else if op = 58 then meetS (nthS L 0) (nthS L 1) else if op = 60 then nthS L 0 else noneS
def mustS : NodeA → Api_NamesA
  | .mk op m _ ks => mustB op m ks (ks.attach.map fun ⟨k, _⟩ => mustS k)
termination_by n => SizeOf.sizeOf n
decreasing_by exact NodeA.size_kid (by assumption)
theorem mustS_eq (n : NodeA) : mustS n = mustB n.op n.name n.kids (n.kids.map mustS) := by cases n with | mk o m r ks => rw [mustS, att_map]; rfl
def freeB (op : Int) (m : ByteArray) (M L : List Api_NamesA) : Api_NamesA :=
  if op = 2 then oneS m else if op = 3 then oneS (m ++ tick) else if op = 11 ∨ op = 38 ∨ op = 61 ∨ op = 62 ∨ op = 56 then allS
  else if op = 12 ∨ op = 39 then (if (nthS L 0).all then allS else prmS (nthS L 0))
  else if op = 33 ∨ op = 34 then minusS (nthS L 0) (oneS m)
  else if op = 35 ∨ op = 36 ∨ op = 57 then unionS (nthS L 0) (minusS (nthS L 1) (nthS M 0))
  else if op = 55 then unionS (unL noneS L) (oneS m) else unL noneS L
def freeS : NodeA → Api_NamesA
  | .mk op m _ ks => freeB op m (ks.map mustS) (ks.attach.map fun ⟨k, _⟩ => freeS k)
termination_by n => SizeOf.sizeOf n
decreasing_by exact NodeA.size_kid (by assumption)
theorem freeS_eq (n : NodeA) : freeS n = freeB n.op n.name (n.kids.map mustS) (n.kids.map freeS) := by cases n with | mk o m r ks => rw [freeS, att_map]; rfl
def anyB (op : Int) (m : ByteArray) (L : List Api_NamesA) : Api_NamesA :=
  unL (if op = 50 ∨ op = 52 ∨ op = 33 ∨ op = 34 then oneS m else if op = 51 then oneS (m ++ tick) else if op = 55 then unionS (oneS m) (oneS (m ++ tick)) else if op = 56 ∨ op = 61 ∨ op = 62 then allS else noneS) L
def anyS : NodeA → Api_NamesA
  | .mk op m _ ks => anyB op m (ks.attach.map fun ⟨k, _⟩ => anyS k)
termination_by n => SizeOf.sizeOf n
decreasing_by exact NodeA.size_kid (by assumption)
theorem anyS_eq (n : NodeA) : anyS n = anyB n.op n.name (n.kids.map anyS) := by cases n with | mk o m r ks => rw [anyS, att_map]; rfl
def boundB (op : Int) (m : ByteArray) (W : Api_NamesA) (L : List Api_NamesA) : Api_NamesA :=
  if sortS op = 2 then W else if op = 55 then unionS (oneS m) (oneS (m ++ tick)) else if op = 56 ∨ op = 61 ∨ op = 62 then allS else if op = 53 then noneS
  else if op = 54 then unL noneS (L.take (L.length - 1)) else unL (if op = 50 ∨ op = 52 then oneS m else if op = 51 then oneS (m ++ tick) else noneS) L
def bndR : NodeA → Api_NamesA
  | .mk op m r ks => boundB op m (anyS (.mk op m r ks)) (ks.attach.map fun ⟨k, _⟩ => bndR k)
termination_by n => SizeOf.sizeOf n
decreasing_by exact NodeA.size_kid (by assumption)
theorem bndR_eq (n : NodeA) : bndR n = boundB n.op n.name (anyS n) (n.kids.map bndR) := by cases n with | mk o m r ks => rw [bndR, att_map]; rfl
section
variable {V : List ByteArray}
theorem good_nth {L : List Api_NamesA} (hV : Uni V) (h : ∀ x ∈ L, Good V x) (i : Nat) : Good V (nthS L i) := by
  unfold nthS
  rw [List.getD_eq_getElem?_getD]
  cases hx : L[i]? with
  | none => exact good_none hV _
  | some x => exact h x (List.mem_of_getElem? hx)
theorem good_prim {s : Api_NamesA} (h : Good V s) : Good V (prmS s) := by
  have key : ∀ (l : List ByteArray) (o : Api_NamesA), Good V o → (∀ x ∈ l, x ∈ s.list) → Good V (l.foldl primF o) := by
    intro l
    induction l with
    | nil => exact fun o ho _ => ho
    | cons v l ih =>
      intro o ho hl
      refine ih _ ?_ fun x hx => hl x (List.mem_cons_of_mem _ hx)
      have hv := hl v (List.mem_cons_self ..)
      unfold primF
      cases ht : tickB v with
      | true => exact ho
      | false =>
        have hne : v[v.size - 1]? ≠ some 39 := by unfold tickB at ht; simpa using ht
        have hvar := h.var v hv
        have hn : nameB v = true := by unfold varB unpB at hvar; rwa [if_neg (fun h2 => hne h2.2)] at hvar
        exact good_union ho (good_one h.uni (tick_var hn) (h.uni.cls v (h.sub v hv) hne))
  exact key s.list s h fun _ h => h
theorem good_tk {n : NodeA} (hV : Uni V) (hf : Fine n) (hc : Cov V n) (hn : namedS n.op = true) : Good V (unionS (oneS n.name) (oneS (n.name ++ tick))) := by
  obtain ⟨h1, h2, _⟩ := good_name hV hf hc hn
  exact good_union h1 h2
theorem good_flow {ks : List NodeA} (hV : Uni V) (hk : ∀ k ∈ ks, Fine k ∧ Cov V k) : ∀ s, Good V s → Good V (ks.foldl flowM s) := by
  induction ks with
  | nil => exact fun s h => h
  | cons k ks ih =>
    intro s hs
    refine ih (fun x hx => hk x (List.mem_cons_of_mem _ hx)) _ ?_
    unfold flowM
    cases h : k.op == 55 with
    | false => exact hs
    | true =>
      obtain ⟨h1, h2⟩ := hk k (List.mem_cons_self ..)
      exact good_union hs (good_tk hV h1 h2 (named_b (by have := eq_of_beq h; omega)))
theorem good_must (hV : Uni V) : ∀ n : NodeA, Fine n → Cov V n → Good V (mustS n) := by
  refine NodeA.ind fun n ih => ?_
  intro hf hc
  have hL : ∀ x ∈ n.kids.map mustS, Good V x := fun x hx => by obtain ⟨k, hk, rfl⟩ := List.mem_map.1 hx; exact ih k hk (fine_kid hf hk) (cov_kid hc hk)
  rw [mustS_eq]
  unfold mustB
  split
  · exact (good_name hV hf hc (named_b (by omega))).1
  split
  · exact (good_name hV hf hc (named_b (by omega))).2.1
  split
  · exact good_flow hV (fun k hk => ⟨fine_kid hf hk, cov_kid hc hk⟩) _ (good_none hV _)
  split
  · exact good_union (good_nth hV hL 0) (good_nth hV hL 1)
  split
  · exact good_meet (good_nth hV hL 0) (good_nth hV hL 1)
  split
  · exact good_nth hV hL 0
  · exact good_none hV _
theorem good_free (hV : Uni V) : ∀ n : NodeA, Fine n → Cov V n → Good V (freeS n) := by
  refine NodeA.ind fun n ih => ?_
  intro hf hc
  have hL : ∀ x ∈ n.kids.map freeS, Good V x := fun x hx => by obtain ⟨k, hk, rfl⟩ := List.mem_map.1 hx; exact ih k hk (fine_kid hf hk) (cov_kid hc hk)
  have hM : ∀ x ∈ n.kids.map mustS, Good V x := fun x hx => by obtain ⟨k, hk, rfl⟩ := List.mem_map.1 hx; exact good_must hV k (fine_kid hf hk) (cov_kid hc hk)
  rw [freeS_eq]
  unfold freeB
  split
  · exact (good_name hV hf hc (named_b (by omega))).1
  split
  · exact (good_name hV hf hc (named_b (by omega))).2.1
  split
  · exact good_none hV _
  split
  · split
    · exact good_none hV _
    · exact good_prim (good_nth hV hL 0)
  split
  · exact good_minus (good_nth hV hL 0) (good_name hV hf hc (named_b (by omega))).1
  split
  · exact good_union (good_nth hV hL 0) (good_minus (good_nth hV hL 1) (good_nth hV hM 0))
  split
  · exact good_union (good_unL (good_none hV _) hL) (good_name hV hf hc (named_b (by omega))).1
  · exact good_unL (good_none hV _) hL
theorem good_any (hV : Uni V) : ∀ n : NodeA, Fine n → Cov V n → Good V (anyS n) := by
  refine NodeA.ind fun n ih => ?_
  intro hf hc
  have hL : ∀ x ∈ n.kids.map anyS, Good V x := fun x hx => by obtain ⟨k, hk, rfl⟩ := List.mem_map.1 hx; exact ih k hk (fine_kid hf hk) (cov_kid hc hk)
  rw [anyS_eq]
  unfold anyB
  refine good_unL ?_ hL
  split
  · exact (good_name hV hf hc (named_b (by omega))).1
  split
  · exact (good_name hV hf hc (named_b (by omega))).2.1
  split
  · exact good_tk hV hf hc (named_b (by omega))
  split
  · exact good_none hV _
  · exact good_none hV _
theorem good_bndR (hV : Uni V) : ∀ n : NodeA, Fine n → Cov V n → Good V (bndR n) := by
  refine NodeA.ind fun n ih => ?_
  intro hf hc
  have hL : ∀ x ∈ n.kids.map bndR, Good V x := fun x hx => by obtain ⟨k, hk, rfl⟩ := List.mem_map.1 hx; exact ih k hk (fine_kid hf hk) (cov_kid hc hk)
  rw [bndR_eq]
  unfold boundB
  split
  · exact good_any hV n hf hc
  split
  · exact good_tk hV hf hc (named_b (by omega))
  split
  · exact good_none hV _
  split
  · exact good_none hV _
  split
  · exact good_unL (good_none hV _) fun x hx => hL x (List.mem_of_mem_take hx)
  · refine good_unL ?_ hL
    split
    · exact (good_name hV hf hc (named_b (by omega))).1
    split
    · exact (good_name hV hf hc (named_b (by omega))).2.1
    · exact good_none hV _
/-! ### The loops -/
def kidsJ (K : Nat) (self : NodeA → Option Api_NamesA) (L : List NodeA) : (Int × Api_NamesA → Option Api_NamesA) → Int × Api_NamesA → Option Api_NamesA := fun again x =>
  if decide (x.1 < (L.length : Int)) then (idx L x.1).bind fun x50 => (self x50).bind fun r52 => (r10_join K x.2 r52).bind fun r54 => again (IntKind.wrap .i64 (x.1 + (1 : Int)), r54) else some x.2
theorem loopJ {K : Nat} (L : List NodeA) (z : Int) (m : Nat) (hz : z = (m : Int)) (hm : m ≤ L.length) {self : NodeA → Option Api_NamesA} (f : NodeA → Api_NamesA) {s0 : Api_NamesA} (hs : ∀ x ∈ L, self x = some (f x)) (hg : ∀ x ∈ L, Good V (f x)) (h0 : Good V s0) (hK : KOk V K) (hL : L.length < K) (hb : L.length ≤ big) :
    iter K (fun (again : Int × Api_NamesA → Option Api_NamesA) (x : Int × Api_NamesA) => if decide (x.1 < z) then (idx L x.1).bind fun x50 => (self x50).bind fun r52 => (r10_join K x.2 r52).bind fun r54 => again (IntKind.wrap .i64 (x.1 + (1 : Int)), r54) else some x.2) (0, s0) = some (unL s0 ((L.take m).map f)) := by
  unfold big at hb
  subst hz
  have hgu : ∀ i, Good V (unL s0 ((L.take i).map f)) := fun i => good_unL h0 fun x hx => by
    obtain ⟨y, hy, rfl⟩ := List.mem_map.1 hx
    exact hg y (List.mem_of_mem_take hy)
  refine foldG m (fun i => ((i : Int), unL s0 ((L.take i).map f))) _ (fun g i hi => ?_) (fun g => ?_) (by omega) rfl
  · have hx : L[i]? = some L[i] := List.getElem?_eq_getElem (by omega)
    have hm' := List.getElem_mem (show i < L.length by omega)
    simp only [lt_tn hi, if_true, idx_nat, hx, Option.bind_some, hs _ hm', join_eq (hgu i) (hg _ hm') hK]
    have et : unL s0 ((L.take (i + 1)).map f) = unionS (unL s0 ((L.take i).map f)) (f L[i]) := by
      rw [List.take_add_one, hx]
      simp only [Option.toList_some, List.map_append, List.map_cons, List.map_nil, unL, List.foldl_append, List.foldl_cons, List.foldl_nil]
    rw [w64s (by omega), et]
  · simp only [lt_fn (Nat.le_refl m), Bool.false_eq_true, if_false]
theorem kidsJ_eq {K : Nat} (L : List NodeA) {self : NodeA → Option Api_NamesA} (f : NodeA → Api_NamesA) {s0 : Api_NamesA} (hs : ∀ x ∈ L, self x = some (f x)) (hg : ∀ x ∈ L, Good V (f x)) (h0 : Good V s0) (hK : KOk V K) (hL : L.length < K) (hb : L.length ≤ big) : iter K (kidsJ K self L) (0, s0) = some (unL s0 (L.map f)) := by
  have := loopJ L (L.length : Int) L.length rfl (Nat.le_refl _) f hs hg h0 hK hL hb
  rw [List.take_length] at this
  exact this
theorem tickB_get {v : ByteArray} (h : 0 < v.size) (hb : v.size < 9223372036854775807) : ∃ c : UInt8, strAt v (IntKind.wrap .i64 ((v.size : Int) - 1)) = some c ∧ ((c.toNat : Int) != 39) = !tickB v := by
  have ew : IntKind.wrap .i64 ((v.size : Int) - 1) = ((v.size - 1 : Nat) : Int) := by rw [w64 (by omega) (by omega)]; omega
  obtain ⟨h1, h2⟩ := strAt_get (s := v) (i := v.size - 1) (by omega)
  refine ⟨_, by rw [ew]; exact h1, ?_⟩
  unfold tickB
  rw [h2, bne, byte39]; rfl
theorem primed_eq {K : Nat} {s : Api_NamesA} (h : Good V s) (hK : KOk V K) : r10_primed K s = some (prmS s) := by
  have hlen := h.len
  have htop := h.lt
  have ht : topV = 1000000000000 := rfl
  have hg : ∀ i, Good V ((s.list.take i).foldl primF s) := fun i => by
    have key : ∀ (l : List ByteArray) (o : Api_NamesA), Good V o → (∀ x ∈ l, x ∈ s.list) → Good V (l.foldl primF o) := by
      intro l
      induction l with
      | nil => exact fun o ho _ => ho
      | cons v l ih =>
        intro o ho hl
        refine ih _ ?_ fun x hx => hl x (List.mem_cons_of_mem _ hx)
        have hv := hl v (List.mem_cons_self ..)
        unfold primF
        cases htk : tickB v with
        | true => exact ho
        | false =>
          have hne : v[v.size - 1]? ≠ some 39 := by unfold tickB at htk; simpa using htk
          have hvar := h.var v hv
          have hn : nameB v = true := by unfold varB unpB at hvar; rwa [if_neg (fun h2 => hne h2.2)] at hvar
          exact good_union ho (good_one h.uni (tick_var hn) (h.uni.cls v (h.sub v hv) hne))
    exact key _ s h fun x hx => List.mem_of_mem_take hx
  unfold r10_primed
  refine ob _ (foldG s.list.length (fun i => ((i : Int), (s.list.take i).foldl primF s)) (prmS s) (fun g i hi => ?_) (fun g => ?_) (by have := hK.2; omega) rfl) rfl
  · have hx : s.list[i]? = some s.list[i] := List.getElem?_eq_getElem hi
    have hm := List.getElem_mem hi
    have h100 := h.uni.siz _ (h.sub _ hm)
    have hvar := h.var _ hm
    have hsz : 0 < s.list[i].size := by
      apply Nat.pos_of_ne_zero
      intro h0
      unfold varB unpB at hvar
      rw [if_neg (fun h => by omega)] at hvar
      have := (name_size hvar).1
      omega
    have et : s.list.take (i + 1) = s.list.take i ++ [s.list[i]] := by rw [List.take_add_one, hx]; rfl
    obtain ⟨c, hc1, hc2⟩ := tickB_get hsz (by omega)
    simp only [lt_tn hi, if_true, idx_nat, hx, Option.bind_some, hc1, hc2, catO_tick h100, r10_only]
    rw [w64s (by omega), et, List.foldl_append]
    show _ = g (((i + 1 : Nat) : Int), primF ((s.list.take i).foldl primF s) s.list[i])
    unfold primF
    cases htk : tickB s.list[i] with
    | true => simp
    | false =>
      have hne : s.list[i][s.list[i].size - 1]? ≠ some 39 := by unfold tickB at htk; simpa using htk
      have hn : nameB s.list[i] = true := by unfold varB unpB at hvar; rwa [if_neg (fun h2 => hne h2.2)] at hvar
      have hj := join_eq (hg i) (good_one h.uni (tick_var hn) (h.uni.cls _ (h.sub _ hm) hne)) hK
      simp only [Bool.not_false, if_true, Bool.false_eq_true, if_false]
      unfold primF at hj
      rw [hj]; rfl
  · simp only [lt_fn (Nat.le_refl s.list.length), Bool.false_eq_true, if_false, List.take_length]
    rfl
end
end Go.Proofs.YtngmfimpaembnaaGreatDoor
namespace Go.Proofs.YtngmfimpaembnaaGreatDoor
open Go Go.Iso Go.Proofs
set_option linter.unusedSimpArgs false
set_option linter.unusedVariables false
set_option maxRecDepth 100000
section
variable {V : List ByteArray}
def KR (V : List ByteArray) (n : NodeA) (K : Nat) : Prop := KOk V K ∧ n.size < K
theorem kr_kid {n k : NodeA} {K : Nat} (h : KR V n K) (hk : k ∈ n.kids) : KR V k K := ⟨h.1, by have := NodeA.size_lt hk; have := h.2; omega⟩
theorem idx0 {k : NodeA} {l : List NodeA} : idx (k :: l) 0 = some k := nrfl rfl
theorem idx1 {k k1 : NodeA} {l : List NodeA} : idx (k :: k1 :: l) 1 = some k1 := nrfl rfl
theorem only_eq {K : Nat} {x : ByteArray} : r10_only K x = some (oneS x) := nrfl rfl
def flowR (K : Nat) (C : ByteArray → ByteArray → Option ByteArray) (ks : List NodeA) : (Int × Api_NamesA → Option Api_NamesA) → Int × Api_NamesA → Option Api_NamesA := fun again x =>
  if decide (x.1 < (ks.length : Int)) then ((idx ks x.1).bind fun x26 => if (x26.op == (55 : Int)) then (r10_only K x26.name).bind fun r29 => (C x26.name (⟨#[39]⟩ : ByteArray)).bind fun s31 => (r10_only K s31).bind fun r33 => (r10_join K r29 r33).bind fun r35 => (r10_join K x.2 r35).bind fun r37 => some r37 else some x.2).bind fun v => again (IntKind.wrap .i64 (x.1 + (1 : Int)), v) else some x.2
theorem flow_loop {K : Nat} {ks : List NodeA} {C : ByteArray → ByteArray → Option ByteArray} (hC : ∀ x : ByteArray, x.size < 100 → C x tick = some (x ++ tick)) (hV : Uni V) (hk : ∀ k ∈ ks, Fine k ∧ Cov V k) (hK : KOk V K) (hL : ks.length < K) (hb : ks.length ≤ big) :
    iter K (flowR K C ks) (0, noneS) = some (ks.foldl flowM noneS) := by
  unfold big at hb
  refine foldG ks.length (fun i => ((i : Int), (ks.take i).foldl flowM noneS)) _ (fun g i hi => ?_) (fun g => ?_) (by omega) rfl
  · have hx : ks[i]? = some ks[i] := List.getElem?_eq_getElem hi
    have hm := List.getElem_mem hi
    obtain ⟨hf, hc⟩ := hk _ hm
    have et : ks.take (i + 1) = ks.take i ++ [ks[i]] := by rw [List.take_add_one, hx]; rfl
    have hg := good_flow (ks := ks.take i) hV (fun k hk' => hk k (List.mem_of_mem_take hk')) _ (good_none hV false)
    obtain ⟨S, hS⟩ : ∃ S, S = (ks.take i).foldl flowM noneS := ⟨_, rfl⟩
    have hstep : (if (ks[i].op == (55 : Int)) then (r10_only K ks[i].name).bind fun r29 => (C ks[i].name (⟨#[39]⟩ : ByteArray)).bind fun s31 => (r10_only K s31).bind fun r33 => (r10_join K r29 r33).bind fun r35 => (r10_join K S r35).bind fun r37 => some r37 else some S) = some (flowM S ks[i]) := by
      rw [hS]
      cases h : ks[i].op == 55 with
      | false =>
        rw [if_neg (by simp)]
        have e : flowM ((ks.take i).foldl flowM noneS) ks[i] = (ks.take i).foldl flowM noneS := by rw [flowM, h]; rfl
        rw [e]
      | true =>
        have hn : namedS ks[i].op = true := named_b (by have := eq_of_beq h; omega)
        obtain ⟨g1, g2, g3⟩ := good_name hV hf hc hn
        have j1 := join_eq g1 g2 hK
        have j2 := join_eq hg (good_tk hV hf hc hn) hK
        have e : flowM ((ks.take i).foldl flowM noneS) ks[i] = unionS ((ks.take i).foldl flowM noneS) (unionS (oneS ks[i].name) (oneS (ks[i].name ++ tick))) := by rw [flowM, h]; rfl
        rw [if_pos rfl, e]
        exact ob _ only_eq (ob _ (hC _ g3) (ob _ only_eq (ob _ j1 (ob _ j2 rfl))))
    unfold flowR
    rw [if_pos (lt_tn hi)]
    refine ob (flowM S ks[i]) (ob ks[i] (by rw [idx_nat]; exact hx) ?_) ?_
    · rw [hS] at hstep ⊢; exact hstep
    · show g (IntKind.wrap .i64 ((i : Int) + 1), flowM S ks[i]) = g (((i + 1 : Nat) : Int), (ks.take (i + 1)).foldl flowM noneS)
      rw [w64s (by omega), et, List.foldl_append, ← hS]; rfl
  · unfold flowR
    rw [if_neg (by rw [lt_fn (Nat.le_refl ks.length)]; simp), List.take_length]
section
variable {K : Nat} {s : NodeA → Option Api_NamesA} {m : ByteArray} {r : RatA} {ks : List NodeA}
theorem rm50 {n : NodeA} (h : n.op = 50 ∨ n.op = 52) : r10_must_body K s n = some (oneS n.name) := by
  obtain ⟨op, m, r, ks⟩ := n
  simp only [NodeA.op_mk] at h
  unfold r10_must_body
  generalize catO = C
  rcases h with rfl | rfl <;> kernel_rfl
theorem rm51 {x : ByteArray} (hc : catO m tick = some x) : r10_must_body K s (.mk 51 m r ks) = some (oneS x) := by
  unfold r10_must_body
  simp only [NodeA.name_mk]
  generalize catO m ⟨#[39]⟩ = c at hc ⊢
  subst hc
  generalize catO = C
  kernel_rfl
theorem rm54 {u : Api_NamesA} (hu : iter K (flowR K catO ks) (0, noneS) = some u) : r10_must_body K s (.mk 54 m r ks) = some u := by
  unfold r10_must_body
  generalize catO = C at hu ⊢
  exact ob _ (Eq.trans (b := (iter K (flowR K C ks) (0, noneS)).bind fun e => outM (some e)) (by kernel_rfl) (ob _ hu rfl)) rfl
theorem rm57 {k0 k1 : NodeA} {a b u : Api_NamesA} (h0 : s k0 = some a) (h1 : s k1 = some b) (hu : r10_join K a b = some u) : r10_must_body K s (.mk 57 m r [k0, k1]) = some u := by
  unfold r10_must_body
  generalize catO = C
  exact ob _ (Eq.trans (b := (s k0).bind fun x => (s k1).bind fun y => (r10_join K x y).bind fun z => outM (some z)) (by kernel_rfl) (ob _ h0 (ob _ h1 (ob _ hu rfl)))) rfl
theorem rm58 {k0 k1 : NodeA} {a b u : Api_NamesA} (h0 : s k0 = some a) (h1 : s k1 = some b) (hu : r10_meet K a b = some u) : r10_must_body K s (.mk 58 m r [k0, k1]) = some u := by
  unfold r10_must_body
  generalize catO = C
  exact ob _ (Eq.trans (b := (s k0).bind fun x => (s k1).bind fun y => (r10_meet K x y).bind fun z => outM (some z)) (by kernel_rfl) (ob _ h0 (ob _ h1 (ob _ hu rfl)))) rfl
theorem rm60 {k0 : NodeA} {a : Api_NamesA} (h0 : s k0 = some a) : r10_must_body K s (.mk 60 m r [k0]) = some a := by
  unfold r10_must_body
  generalize catO = C
  exact ob _ (Eq.trans (b := (s k0).bind fun x => outM (some x)) (by kernel_rfl) (ob _ h0 rfl)) rfl
theorem rmN {n : NodeA} (h50 : n.op ≠ 50) (h52 : n.op ≠ 52) (h51 : n.op ≠ 51) (h54 : n.op ≠ 54) (h57 : n.op ≠ 57) (h58 : n.op ≠ 58) (h60 : n.op ≠ 60) : r10_must_body K s n = some noneS := by
  unfold r10_must_body
  rw [beq_eq_false_iff_ne.2 h50, beq_eq_false_iff_ne.2 h51, beq_eq_false_iff_ne.2 h52, beq_eq_false_iff_ne.2 h54, beq_eq_false_iff_ne.2 h57, beq_eq_false_iff_ne.2 h58, beq_eq_false_iff_ne.2 h60]
  generalize catO = C
  kernel_rfl
end
theorem must_iter {K : Nat} (hV : Uni V) : ∀ (n : NodeA) (j : Nat), Fine n → Cov V n → n.size ≤ big → n.size ≤ j → KR V n K → iter j (fun self q => r10_must_body K self q) n = some (mustS n) := by
  refine NodeA.ind fun n ih => ?_
  intro j hf hc hb hj hK
  have hp := n.size_pos
  have hkl := n.kids_lt
  obtain ⟨j, rfl⟩ : ∃ i, j = i + 1 := ⟨j - 1, by omega⟩
  rw [iter_succ, mustS_eq]
  have ih' : ∀ k ∈ n.kids, iter j (fun self q => r10_must_body K self q) k = some (mustS k) := fun k hk => ih k hk j (fine_kid hf hk) (cov_kid hc hk) (by have := NodeA.size_lt hk; omega) (by have := NodeA.size_lt hk; omega) (kr_kid hK hk)
  have hg : ∀ k ∈ n.kids, Good V (mustS k) := fun k hk => good_must hV k (fine_kid hf hk) (cov_kid hc hk)
  have hgn : namedS n.op = true → Good V (oneS n.name) ∧ Good V (oneS (n.name ++ tick)) ∧ n.name.size < 100 := good_name hV hf hc
  have hfl := flow_loop (K := K) (ks := n.kids) (C := catO) (fun x h => catO_tick h) hV (fun k hk => ⟨fine_kid hf hk, cov_kid hc hk⟩) hK.1 (by have := hK.2; omega) (by omega)
  have two := fun (h : sortsC n = [3, 3]) => sorts2 hf h
  have one := fun (h : sortsC n = [3]) => sorts1 hf h
  generalize iter j (fun self q => r10_must_body K self q) = S at ih' ⊢
  unfold mustB
  by_cases h1 : n.op = 50 ∨ n.op = 52
  · rw [if_pos h1]; exact rm50 h1
  rw [if_neg h1]
  by_cases h2 : n.op = 51
  · have hn := hgn (named_b (by omega))
    rw [if_pos h2]
    clear ih hj hp hkl hb hc hf two one hfl ih' hg hgn
    obtain ⟨op, m, r, ks⟩ := n
    simp only [NodeA.op_mk, NodeA.name_mk] at h2 hn ⊢
    subst h2
    exact rm51 (catO_tick hn.2.2)
  rw [if_neg h2]
  by_cases h3 : n.op = 54
  · rw [if_pos h3]
    clear ih hj hp hkl hb hc hf two one ih' hg hgn
    obtain ⟨op, m, r, ks⟩ := n
    simp only [NodeA.op_mk] at h3
    subst h3
    exact rm54 hfl
  rw [if_neg h3]
  by_cases h4 : n.op = 57
  · obtain ⟨k0, k1, hks, _, _⟩ := two (by unfold sortsC; rw [h4]; rfl)
    have m0 : k0 ∈ n.kids := by rw [hks]; simp
    have m1 : k1 ∈ n.kids := by rw [hks]; simp
    have q0 := ih' k0 m0; have q1 := ih' k1 m1
    have hj' := join_eq (hg k0 m0) (hg k1 m1) hK.1
    rw [if_pos h4]
    clear ih hj hp hkl hb hc hf two one ih' hg hgn hfl m0 m1
    obtain ⟨op, m, r, ks⟩ := n
    simp only [NodeA.op_mk, NodeA.kids_mk] at h4 hks ⊢
    subst h4 hks
    exact rm57 q0 q1 hj'
  rw [if_neg h4]
  by_cases h5 : n.op = 58
  · obtain ⟨k0, k1, hks, _, _⟩ := two (by unfold sortsC; rw [h5]; rfl)
    have m0 : k0 ∈ n.kids := by rw [hks]; simp
    have m1 : k1 ∈ n.kids := by rw [hks]; simp
    have q0 := ih' k0 m0; have q1 := ih' k1 m1
    have hj' := meet_eq (hg k0 m0) (hg k1 m1) hK.1
    rw [if_pos h5]
    clear ih hj hp hkl hb hc hf two one ih' hg hgn hfl m0 m1
    obtain ⟨op, m, r, ks⟩ := n
    simp only [NodeA.op_mk, NodeA.kids_mk] at h5 hks ⊢
    subst h5 hks
    exact rm58 q0 q1 hj'
  rw [if_neg h5]
  by_cases h6 : n.op = 60
  · obtain ⟨k0, hks, _⟩ := one (by unfold sortsC; rw [h6]; rfl)
    have m0 : k0 ∈ n.kids := by rw [hks]; simp
    have q0 := ih' k0 m0
    rw [if_pos h6]
    clear ih hj hp hkl hb hc hf two one ih' hg hgn hfl m0
    obtain ⟨op, m, r, ks⟩ := n
    simp only [NodeA.op_mk, NodeA.kids_mk] at h6 hks ⊢
    subst h6 hks
    exact rm60 q0
  rw [if_neg h6]
  exact rmN (fun h => h1 (.inl h)) (fun h => h1 (.inr h)) h2 h3 h4 h5 h6
theorem r10_must_eq {K : Nat} (hV : Uni V) {n : NodeA} (hf : Fine n) (hc : Cov V n) (hb : n.size ≤ big) (hK : KR V n K) : r10_must K n = some (mustS n) := must_iter hV n K hf hc hb (by have := hK.2; omega) hK
end
end Go.Proofs.YtngmfimpaembnaaGreatDoor
namespace Go.Proofs.YtngmfimpaembnaaGreatDoor
open Go Go.Iso Go.Proofs
set_option linter.unusedSimpArgs false
set_option linter.unusedVariables false
set_option maxRecDepth 100000
/-! ### Free -/
section
variable {K : Nat} {s : NodeA → Option Api_NamesA} {m : ByteArray} {r : RatA} {ks : List NodeA}
theorem rf2 : r10_free_body K s (.mk 2 m r ks) = some (oneS m) := by
  unfold r10_free_body
  generalize catO = C
  kernel_rfl
theorem rf3 {x : ByteArray} (hc : catO m tick = some x) : r10_free_body K s (.mk 3 m r ks) = some (oneS x) := by
  unfold r10_free_body
  simp only [NodeA.name_mk]
  generalize catO m ⟨#[39]⟩ = c at hc ⊢
  subst hc
  kernel_rfl
theorem rfA {n : NodeA} (h : n.op = 11 ∨ n.op = 38 ∨ n.op = 61 ∨ n.op = 62 ∨ n.op = 56) : r10_free_body K s n = some allS := by
  obtain ⟨op, m, r, ks⟩ := n
  simp only [NodeA.op_mk] at h
  unfold r10_free_body
  generalize catO = C
  rcases h with rfl | rfl | rfl | rfl | rfl <;> kernel_rfl
theorem rf12 {op : Int} {k0 : NodeA} {a F : Api_NamesA} (h : op = 12 ∨ op = 39) (h0 : s k0 = some a) (hp : (if a.all then some allS else r10_primed K a) = some F) : r10_free_body K s (.mk op m r [k0]) = some F := by
  unfold r10_free_body
  generalize catO = C
  generalize r10_primed K = P at hp ⊢
  have fin : (if a.all then outM (some allS) else (P a).bind fun y => outM (some y)) = some (Out.out F : Out Unit Api_NamesA) := by
    cases ha : a.all with
    | true => rw [ha] at hp; simp only [if_true] at hp ⊢; cases hp; rfl
    | false => rw [ha] at hp; simp only [Bool.false_eq_true, if_false] at hp ⊢; rw [hp]; rfl
  rcases h with rfl | rfl
  · exact ob _ (Eq.trans (b := (s k0).bind fun x => if x.all then outM (some allS) else (P x).bind fun y => outM (some y)) (by kernel_rfl) (ob _ h0 fin)) rfl
  · exact ob _ (Eq.trans (b := (s k0).bind fun x => if x.all then outM (some allS) else (P x).bind fun y => outM (some y)) (by kernel_rfl) (ob _ h0 fin)) rfl
theorem rf33 {op : Int} {k0 : NodeA} {a F : Api_NamesA} (h : op = 33 ∨ op = 34) (h0 : s k0 = some a) (hp : r10_minus K a (oneS m) = some F) : r10_free_body K s (.mk op m r [k0]) = some F := by
  unfold r10_free_body
  generalize catO = C
  generalize r10_minus K = P at hp ⊢
  rcases h with rfl | rfl
  · exact ob _ (Eq.trans (b := (s k0).bind fun x => (P x (oneS m)).bind fun y => outM (some y)) (by kernel_rfl) (ob _ h0 (ob _ hp rfl))) rfl
  · exact ob _ (Eq.trans (b := (s k0).bind fun x => (P x (oneS m)).bind fun y => outM (some y)) (by kernel_rfl) (ob _ h0 (ob _ hp rfl))) rfl
theorem rf57 {op : Int} {k0 k1 : NodeA} {a b M d u : Api_NamesA} (h : op = 35 ∨ op = 36 ∨ op = 57) (h0 : s k0 = some a) (h1 : s k1 = some b) (hM : r10_must K k0 = some M) (hd : r10_minus K b M = some d) (hu : r10_join K a d = some u) : r10_free_body K s (.mk op m r [k0, k1]) = some u := by
  unfold r10_free_body
  generalize catO = C
  generalize r10_minus K = P at hd ⊢
  generalize r10_join K = U at hu ⊢
  generalize r10_must K = T at hM ⊢
  rcases h with rfl | rfl | rfl
  · exact ob _ (Eq.trans (b := (s k0).bind fun x => (s k1).bind fun y => (T k0).bind fun z => (P y z).bind fun w => (U x w).bind fun v => outM (some v)) (by kernel_rfl) (ob _ h0 (ob _ h1 (ob _ hM (ob _ hd (ob _ hu rfl)))))) rfl
  · exact ob _ (Eq.trans (b := (s k0).bind fun x => (s k1).bind fun y => (T k0).bind fun z => (P y z).bind fun w => (U x w).bind fun v => outM (some v)) (by kernel_rfl) (ob _ h0 (ob _ h1 (ob _ hM (ob _ hd (ob _ hu rfl)))))) rfl
  · exact ob _ (Eq.trans (b := (s k0).bind fun x => (s k1).bind fun y => (T k0).bind fun z => (P y z).bind fun w => (U x w).bind fun v => outM (some v)) (by kernel_rfl) (ob _ h0 (ob _ h1 (ob _ hM (ob _ hd (ob _ hu rfl)))))) rfl
theorem rf55 {e u : Api_NamesA} (he : iter K (kidsJ K s ks) (0, noneS) = some e) (hu : r10_join K e (oneS m) = some u) : r10_free_body K s (.mk 55 m r ks) = some u := by
  unfold r10_free_body
  generalize catO = C
  exact Eq.trans (b := (iter K (kidsJ K s ks) (0, noneS)).bind fun e => ((r10_join K e (oneS m)).bind fun u => some u).bind fun v => some v) (by kernel_rfl) (ob _ he (ob _ (ob _ hu rfl) rfl))
theorem rfN {n : NodeA} {e : Api_NamesA} (he : iter K (kidsJ K s n.kids) (0, noneS) = some e) (h2 : n.op ≠ 2) (h3 : n.op ≠ 3) (hA : ¬ (n.op = 11 ∨ n.op = 38 ∨ n.op = 61 ∨ n.op = 62 ∨ n.op = 56)) (h12 : ¬ (n.op = 12 ∨ n.op = 39)) (h33 : ¬ (n.op = 33 ∨ n.op = 34)) (h57 : ¬ (n.op = 35 ∨ n.op = 36 ∨ n.op = 57)) (h55 : n.op ≠ 55) : r10_free_body K s n = some e := by
  unfold r10_free_body
  rw [beq_eq_false_iff_ne.2 h2, beq_eq_false_iff_ne.2 h3, beq_eq_false_iff_ne.2 (show n.op ≠ 11 by omega), beq_eq_false_iff_ne.2 (show n.op ≠ 38 by omega), beq_eq_false_iff_ne.2 (show n.op ≠ 61 by omega), beq_eq_false_iff_ne.2 (show n.op ≠ 62 by omega), beq_eq_false_iff_ne.2 (show n.op ≠ 56 by omega), beq_eq_false_iff_ne.2 (show n.op ≠ 12 by omega), beq_eq_false_iff_ne.2 (show n.op ≠ 39 by omega), beq_eq_false_iff_ne.2 (show n.op ≠ 33 by omega), beq_eq_false_iff_ne.2 (show n.op ≠ 34 by omega), beq_eq_false_iff_ne.2 (show n.op ≠ 35 by omega), beq_eq_false_iff_ne.2 (show n.op ≠ 36 by omega), beq_eq_false_iff_ne.2 (show n.op ≠ 57 by omega), beq_eq_false_iff_ne.2 h55]
  generalize catO n.name ⟨#[39]⟩ = c
  exact Eq.trans (b := (iter K (kidsJ K s n.kids) (0, noneS)).bind fun e => (some e).bind fun v => some v) (by kernel_rfl) (ob _ he rfl)
end
section
variable {V : List ByteArray}
theorem free_iter {K : Nat} (hV : Uni V) : ∀ (n : NodeA) (j : Nat), Fine n → Cov V n → n.size ≤ big → n.size ≤ j → KR V n K → iter j (fun self q => r10_free_body K self q) n = some (freeS n) := by
  refine NodeA.ind fun n ih => ?_
  intro j hf hc hb hj hK
  have hp := n.size_pos
  have hkl := n.kids_lt
  obtain ⟨j, rfl⟩ : ∃ i, j = i + 1 := ⟨j - 1, by omega⟩
  rw [iter_succ, freeS_eq]
  have ih' : ∀ k ∈ n.kids, iter j (fun self q => r10_free_body K self q) k = some (freeS k) := fun k hk => ih k hk j (fine_kid hf hk) (cov_kid hc hk) (by have := NodeA.size_lt hk; omega) (by have := NodeA.size_lt hk; omega) (kr_kid hK hk)
  have hg : ∀ k ∈ n.kids, Good V (freeS k) := fun k hk => good_free hV k (fine_kid hf hk) (cov_kid hc hk)
  have hM : ∀ k ∈ n.kids, Good V (mustS k) ∧ r10_must K k = some (mustS k) := fun k hk => ⟨good_must hV k (fine_kid hf hk) (cov_kid hc hk), r10_must_eq hV (fine_kid hf hk) (cov_kid hc hk) (by have := NodeA.size_lt hk; omega) (kr_kid hK hk)⟩
  have hgn : namedS n.op = true → Good V (oneS n.name) ∧ Good V (oneS (n.name ++ tick)) ∧ n.name.size < 100 := good_name hV hf hc
  generalize iter j (fun self q => r10_free_body K self q) = S at ih' ⊢
  have hloop : iter K (kidsJ K S n.kids) (0, noneS) = some (unL noneS (n.kids.map freeS)) := kidsJ_eq n.kids freeS ih' hg (good_none hV _) hK.1 (by have := hK.2; omega) (by omega)
  have two := fun (a b : Int) (h : sortsC n = [a, b]) => sorts2 hf h
  have one := fun (a : Int) (h : sortsC n = [a]) => sorts1 hf h
  have hK1 := hK.1
  unfold freeB
  by_cases h2 : n.op = 2
  · rw [if_pos h2]
    clear ih hj hp hkl hb hc hf two one ih' hg hgn hM hloop hK
    obtain ⟨op, m, r, ks⟩ := n
    simp only [NodeA.op_mk] at h2
    subst h2
    exact rf2
  rw [if_neg h2]
  by_cases h3 : n.op = 3
  · have hn := hgn (named_b (by omega))
    rw [if_pos h3]
    clear ih hj hp hkl hb hc hf two one ih' hg hgn hM hloop hK
    obtain ⟨op, m, r, ks⟩ := n
    simp only [NodeA.op_mk, NodeA.name_mk] at h3 hn ⊢
    subst h3
    exact rf3 (catO_tick hn.2.2)
  rw [if_neg h3]
  by_cases hA : n.op = 11 ∨ n.op = 38 ∨ n.op = 61 ∨ n.op = 62 ∨ n.op = 56
  · rw [if_pos hA]; exact rfA hA
  rw [if_neg hA]
  by_cases h12 : n.op = 12 ∨ n.op = 39
  · obtain ⟨k0, hks⟩ : ∃ k0, n.kids = [k0] := by
      rcases h12 with h | h
      · obtain ⟨k0, hks, _⟩ := one 1 (by unfold sortsC; rw [h]; rfl)
        exact ⟨k0, hks⟩
      · obtain ⟨k0, hks, _⟩ := one 2 (by unfold sortsC; rw [h]; rfl)
        exact ⟨k0, hks⟩
    have m0 : k0 ∈ n.kids := by rw [hks]; simp
    have q0 := ih' k0 m0
    have g0 := hg k0 m0
    have hp' : (if (freeS k0).all then some allS else r10_primed K (freeS k0)) = some (if (freeS k0).all then allS else prmS (freeS k0)) := by
      rw [primed_eq g0 hK1]; split <;> rfl
    rw [if_pos h12]
    clear ih hj hp hkl hb hc hf two one ih' hg hgn hM hloop hK m0
    obtain ⟨op, m, r, ks⟩ := n
    simp only [NodeA.op_mk, NodeA.kids_mk] at h12 hks ⊢
    subst hks
    exact rf12 h12 q0 hp'
  rw [if_neg h12]
  by_cases h33 : n.op = 33 ∨ n.op = 34
  · obtain ⟨k0, hks⟩ : ∃ k0, n.kids = [k0] := by
      rcases h33 with h | h
      · obtain ⟨k0, hks, _⟩ := one 2 (by unfold sortsC; rw [h]; rfl)
        exact ⟨k0, hks⟩
      · obtain ⟨k0, hks, _⟩ := one 2 (by unfold sortsC; rw [h]; rfl)
        exact ⟨k0, hks⟩
    have m0 : k0 ∈ n.kids := by rw [hks]; simp
    have q0 := ih' k0 m0
    have hn := hgn (named_b (by omega))
    have hm := minus_eq (hg k0 m0) hn.1 hK1
    rw [if_pos h33]
    clear ih hj hp hkl hb hc hf two one ih' hg hgn hM hloop hK m0 hn
    obtain ⟨op, m, r, ks⟩ := n
    simp only [NodeA.op_mk, NodeA.kids_mk, NodeA.name_mk] at h33 hks hm ⊢
    subst hks
    exact rf33 h33 q0 hm
  rw [if_neg h33]
  by_cases h57 : n.op = 35 ∨ n.op = 36 ∨ n.op = 57
  · obtain ⟨k0, k1, hks⟩ : ∃ k0 k1, n.kids = [k0, k1] := by
      rcases h57 with h | h | h
      · obtain ⟨k0, k1, hks, _⟩ := two 3 2 (by unfold sortsC; rw [h]; rfl)
        exact ⟨k0, k1, hks⟩
      · obtain ⟨k0, k1, hks, _⟩ := two 3 2 (by unfold sortsC; rw [h]; rfl)
        exact ⟨k0, k1, hks⟩
      · obtain ⟨k0, k1, hks, _⟩ := two 3 3 (by unfold sortsC; rw [h]; rfl)
        exact ⟨k0, k1, hks⟩
    have m0 : k0 ∈ n.kids := by rw [hks]; simp
    have m1 : k1 ∈ n.kids := by rw [hks]; simp
    have q0 := ih' k0 m0; have q1 := ih' k1 m1
    obtain ⟨gM, qM⟩ := hM k0 m0
    have hd := minus_eq (hg k1 m1) gM hK1
    have hu := join_eq (hg k0 m0) (good_minus (hg k1 m1) gM) hK1
    rw [if_pos h57]
    clear ih hj hp hkl hb hc hf two one ih' hg hgn hM hloop hK m0 m1
    obtain ⟨op, m, r, ks⟩ := n
    simp only [NodeA.op_mk, NodeA.kids_mk] at h57 hks ⊢
    subst hks
    exact rf57 h57 q0 q1 qM hd hu
  rw [if_neg h57]
  by_cases h55 : n.op = 55
  · have hn := hgn (named_b (by omega))
    have hu := join_eq (good_unL (l := n.kids.map freeS) (good_none hV false) fun x hx => by obtain ⟨k, hk, rfl⟩ := List.mem_map.1 hx; exact hg k hk) hn.1 hK1
    rw [if_pos h55]
    clear ih hj hp hkl hb hc hf two one ih' hg hgn hM hK hn
    obtain ⟨op, m, r, ks⟩ := n
    simp only [NodeA.op_mk, NodeA.kids_mk, NodeA.name_mk] at h55 hloop hu ⊢
    subst h55
    exact rf55 hloop hu
  rw [if_neg h55]
  exact rfN hloop h2 h3 hA h12 h33 h57 h55
theorem r10_FreeOf_eq {K : Nat} (hV : Uni V) {n : NodeA} (hf : Fine n) (hc : Cov V n) (hb : n.size ≤ big) (hK : KR V n K) : r10_FreeOf K n = some (freeS n) := by
  unfold r10_FreeOf r10_free
  exact ob _ (free_iter hV n K hf hc hb (by have := hK.2; omega) hK) rfl
end
/-! ### Anywhere, bound -/
section
variable {K : Nat} {s : NodeA → Option Api_NamesA} {m : ByteArray} {r : RatA} {ks : List NodeA}
theorem ra50 {n : NodeA} {e : Api_NamesA} (h : n.op = 50 ∨ n.op = 52 ∨ n.op = 33 ∨ n.op = 34) (he : iter K (kidsJ K s n.kids) (0, oneS n.name) = some e) : r10_anywhere_body K s n = some e := by
  obtain ⟨op, m, r, ks⟩ := n
  simp only [NodeA.op_mk, NodeA.kids_mk, NodeA.name_mk] at h he
  unfold r10_anywhere_body
  generalize catO = C
  rcases h with rfl | rfl | rfl | rfl <;> exact Eq.trans (b := (iter K (kidsJ K s ks) (0, oneS m)).bind fun e => some e) (by kernel_rfl) (ob _ he rfl)
theorem ra51 {x : ByteArray} {e : Api_NamesA} (hc : catO m tick = some x) (he : iter K (kidsJ K s ks) (0, oneS x) = some e) : r10_anywhere_body K s (.mk 51 m r ks) = some e := by
  unfold r10_anywhere_body
  simp only [NodeA.name_mk]
  generalize catO m ⟨#[39]⟩ = c at hc ⊢
  subst hc
  exact Eq.trans (b := (iter K (kidsJ K s ks) (0, oneS x)).bind fun e => some e) (by kernel_rfl) (ob _ he rfl)
theorem ra55 {x : ByteArray} {u e : Api_NamesA} (hc : catO m tick = some x) (hu : r10_join K (oneS m) (oneS x) = some u) (he : iter K (kidsJ K s ks) (0, u) = some e) : r10_anywhere_body K s (.mk 55 m r ks) = some e := by
  unfold r10_anywhere_body
  simp only [NodeA.name_mk]
  generalize catO m ⟨#[39]⟩ = c at hc ⊢
  subst hc
  have e1 : ((r10_join K (oneS m) (oneS x)).bind fun r23 => some (r23.all, r23.list)) = some (u.all, u.list) := ob _ hu rfl
  exact Eq.trans (b := ((r10_join K (oneS m) (oneS x)).bind fun r23 => some (r23.all, r23.list)).bind fun x => (iter K (kidsJ K s ks) (0, Api_NamesA.mk x.1 x.2)).bind fun e => some e) (by kernel_rfl) (ob _ e1 (ob _ he rfl))
theorem ra56 {n : NodeA} {e : Api_NamesA} (h : n.op = 56 ∨ n.op = 61 ∨ n.op = 62) (he : iter K (kidsJ K s n.kids) (0, allS) = some e) : r10_anywhere_body K s n = some e := by
  obtain ⟨op, m, r, ks⟩ := n
  simp only [NodeA.op_mk, NodeA.kids_mk] at h he
  unfold r10_anywhere_body
  generalize catO = C
  rcases h with rfl | rfl | rfl <;> exact Eq.trans (b := (iter K (kidsJ K s ks) (0, allS)).bind fun e => some e) (by kernel_rfl) (ob _ he rfl)
theorem raN {n : NodeA} {e : Api_NamesA} (h1 : ¬ (n.op = 50 ∨ n.op = 52 ∨ n.op = 33 ∨ n.op = 34)) (h2 : n.op ≠ 51) (h3 : n.op ≠ 55) (h4 : ¬ (n.op = 56 ∨ n.op = 61 ∨ n.op = 62)) (he : iter K (kidsJ K s n.kids) (0, noneS) = some e) : r10_anywhere_body K s n = some e := by
  unfold r10_anywhere_body
  rw [beq_eq_false_iff_ne.2 (show n.op ≠ 50 by omega), beq_eq_false_iff_ne.2 (show n.op ≠ 52 by omega), beq_eq_false_iff_ne.2 (show n.op ≠ 33 by omega), beq_eq_false_iff_ne.2 (show n.op ≠ 34 by omega), beq_eq_false_iff_ne.2 h2, beq_eq_false_iff_ne.2 h3, beq_eq_false_iff_ne.2 (show n.op ≠ 56 by omega), beq_eq_false_iff_ne.2 (show n.op ≠ 61 by omega), beq_eq_false_iff_ne.2 (show n.op ≠ 62 by omega)]
  generalize catO n.name ⟨#[39]⟩ = c
  exact Eq.trans (b := (iter K (kidsJ K s n.kids) (0, noneS)).bind fun e => some e) (by kernel_rfl) (ob _ he rfl)
theorem rbS {n : NodeA} (h : sortS n.op = 2) {e : Api_NamesA} (he : r10_anywhere K n = some e) : r10_bound_body K s n = some e := by
  unfold r10_bound_body
  rw [r08_Sort_eq, h]
  exact ob _ rfl (ob _ he rfl)
theorem rb50 {n : NodeA} {e : Api_NamesA} (h : n.op = 50 ∨ n.op = 52) (he : iter K (kidsJ K s n.kids) (0, oneS n.name) = some e) : r10_bound_body K s n = some e := by
  obtain ⟨op, m, r, ks⟩ := n
  simp only [NodeA.op_mk, NodeA.kids_mk, NodeA.name_mk] at h he
  unfold r10_bound_body
  generalize catO = C
  rcases h with rfl | rfl <;> exact Eq.trans (b := (iter K (kidsJ K s ks) (0, oneS m)).bind fun e => some e) (by kernel_rfl) (ob _ he rfl)
theorem rb51 {x : ByteArray} {e : Api_NamesA} (hc : catO m tick = some x) (he : iter K (kidsJ K s ks) (0, oneS x) = some e) : r10_bound_body K s (.mk 51 m r ks) = some e := by
  unfold r10_bound_body
  simp only [NodeA.name_mk]
  generalize catO m ⟨#[39]⟩ = c at hc ⊢
  subst hc
  exact Eq.trans (b := (iter K (kidsJ K s ks) (0, oneS x)).bind fun e => some e) (by kernel_rfl) (ob _ he rfl)
theorem rb55 {x : ByteArray} {u : Api_NamesA} (hc : catO m tick = some x) (hu : r10_join K (oneS m) (oneS x) = some u) : r10_bound_body K s (.mk 55 m r ks) = some u := by
  unfold r10_bound_body
  simp only [NodeA.name_mk]
  generalize catO m ⟨#[39]⟩ = c at hc ⊢
  subst hc
  exact ob _ rfl (ob _ (Eq.trans (b := (r10_join K (oneS m) (oneS x)).bind fun r23 => outM (some r23)) (by kernel_rfl) (ob _ hu rfl)) rfl)
theorem rb56 {n : NodeA} (h : n.op = 56 ∨ n.op = 61 ∨ n.op = 62) : r10_bound_body K s n = some allS := by
  obtain ⟨op, m, r, ks⟩ := n
  simp only [NodeA.op_mk] at h
  unfold r10_bound_body
  generalize catO = C
  rcases h with rfl | rfl | rfl <;> kernel_rfl
theorem rb53 : r10_bound_body K s (.mk 53 m r ks) = some noneS := by
  unfold r10_bound_body
  generalize catO = C
  kernel_rfl
theorem rb54 {e : Api_NamesA} (he : iter K (fun (again : Int × Api_NamesA → Option Api_NamesA) (x : Int × Api_NamesA) => if decide (x.1 < IntKind.wrap .i64 ((ks.length : Int) - 1)) then (idx ks x.1).bind fun x50 => (s x50).bind fun r52 => (r10_join K x.2 r52).bind fun r54 => again (IntKind.wrap .i64 (x.1 + (1 : Int)), r54) else some x.2) (0, noneS) = some e) : r10_bound_body K s (.mk 54 m r ks) = some e := by
  unfold r10_bound_body
  generalize catO = C
  have he' : ((iter K (fun (again : Int × Api_NamesA → Option Api_NamesA) (x : Int × Api_NamesA) => if decide (x.1 < IntKind.wrap .i64 ((ks.length : Int) - 1)) then (idx ks x.1).bind fun x50 => (s x50).bind fun r52 => (r10_join K x.2 r52).bind fun r54 => again (IntKind.wrap .i64 (x.1 + (1 : Int)), r54) else some x.2) (0, noneS)).bind fun e => outM (some e)) = some (Out.out e : Out (Bool × List ByteArray) Api_NamesA) := ob _ he rfl
  exact ob _ rfl (ob _ (Eq.trans (by kernel_rfl) he') rfl)
theorem rbN {n : NodeA} {e : Api_NamesA} (hs : sortS n.op ≠ 2) (h1 : ¬ (n.op = 50 ∨ n.op = 52)) (h2 : n.op ≠ 51) (h3 : n.op ≠ 55) (h4 : ¬ (n.op = 56 ∨ n.op = 61 ∨ n.op = 62)) (h5 : n.op ≠ 53) (h6 : n.op ≠ 54) (he : iter K (kidsJ K s n.kids) (0, noneS) = some e) : r10_bound_body K s n = some e := by
  unfold r10_bound_body
  rw [r08_Sort_eq, beq_eq_false_iff_ne.2 (show n.op ≠ 50 by omega), beq_eq_false_iff_ne.2 (show n.op ≠ 52 by omega), beq_eq_false_iff_ne.2 h2, beq_eq_false_iff_ne.2 h3, beq_eq_false_iff_ne.2 (show n.op ≠ 56 by omega), beq_eq_false_iff_ne.2 (show n.op ≠ 61 by omega), beq_eq_false_iff_ne.2 (show n.op ≠ 62 by omega), beq_eq_false_iff_ne.2 h5, beq_eq_false_iff_ne.2 h6]
  have hs' : (sortS n.op == 2) = false := beq_eq_false_iff_ne.2 hs
  generalize catO n.name ⟨#[39]⟩ = c
  generalize sortS n.op = so at hs'
  refine Eq.trans (b := (fun b : Bool => if b = true then (r10_anywhere K n).bind fun r4 => some r4 else (iter K (kidsJ K s n.kids) (0, noneS)).bind fun e => some e) (so == 2)) (by kernel_rfl) ?_
  rw [hs']
  exact ob _ he rfl
end
end Go.Proofs.YtngmfimpaembnaaGreatDoor
namespace Go.Proofs.YtngmfimpaembnaaGreatDoor
open Go Go.Iso Go.Proofs
set_option linter.unusedSimpArgs false
set_option linter.unusedVariables false
set_option maxRecDepth 100000
section
variable {V : List ByteArray}
theorem any_iter {K : Nat} (hV : Uni V) : ∀ (n : NodeA) (j : Nat), Fine n → Cov V n → n.size ≤ big → n.size ≤ j → KR V n K → iter j (fun self q => r10_anywhere_body K self q) n = some (anyS n) := by
  refine NodeA.ind fun n ih => ?_
  intro j hf hc hb hj hK
  have hp := n.size_pos
  have hkl := n.kids_lt
  obtain ⟨j, rfl⟩ : ∃ i, j = i + 1 := ⟨j - 1, by omega⟩
  rw [iter_succ, anyS_eq]
  have ih' : ∀ k ∈ n.kids, iter j (fun self q => r10_anywhere_body K self q) k = some (anyS k) := fun k hk => ih k hk j (fine_kid hf hk) (cov_kid hc hk) (by have := NodeA.size_lt hk; omega) (by have := NodeA.size_lt hk; omega) (kr_kid hK hk)
  have hg : ∀ k ∈ n.kids, Good V (anyS k) := fun k hk => good_any hV k (fine_kid hf hk) (cov_kid hc hk)
  have hgn : namedS n.op = true → Good V (oneS n.name) ∧ Good V (oneS (n.name ++ tick)) ∧ n.name.size < 100 := good_name hV hf hc
  generalize iter j (fun self q => r10_anywhere_body K self q) = S at ih' ⊢
  have hloop : ∀ s0, Good V s0 → iter K (kidsJ K S n.kids) (0, s0) = some (unL s0 (n.kids.map anyS)) := fun s0 h0 => kidsJ_eq n.kids anyS ih' hg h0 hK.1 (by have := hK.2; omega) (by omega)
  have hK1 := hK.1
  unfold anyB
  by_cases h1 : n.op = 50 ∨ n.op = 52 ∨ n.op = 33 ∨ n.op = 34
  · rw [if_pos h1]
    exact ra50 h1 (hloop _ (hgn (named_b (by omega))).1)
  rw [if_neg h1]
  by_cases h2 : n.op = 51
  · have hn := hgn (named_b (by omega))
    have hl := hloop _ hn.2.1
    rw [if_pos h2]
    clear ih hj hp hkl hb hc hf ih' hg hgn hloop hK
    obtain ⟨op, m, r, ks⟩ := n
    simp only [NodeA.op_mk, NodeA.name_mk, NodeA.kids_mk] at h2 hn hl ⊢
    subst h2
    exact ra51 (catO_tick hn.2.2) hl
  rw [if_neg h2]
  by_cases h3 : n.op = 55
  · have hn := hgn (named_b (by omega))
    have hu := join_eq hn.1 hn.2.1 hK1
    have hl := hloop _ (good_union hn.1 hn.2.1)
    rw [if_pos h3]
    clear ih hj hp hkl hb hc hf ih' hg hgn hloop hK
    obtain ⟨op, m, r, ks⟩ := n
    simp only [NodeA.op_mk, NodeA.name_mk, NodeA.kids_mk] at h3 hn hl hu ⊢
    subst h3
    exact ra55 (catO_tick hn.2.2) hu hl
  rw [if_neg h3]
  by_cases h4 : n.op = 56 ∨ n.op = 61 ∨ n.op = 62
  · rw [if_pos h4]
    exact ra56 h4 (hloop _ (good_none hV _))
  rw [if_neg h4]
  exact raN h1 h2 h3 h4 (hloop _ (good_none hV _))
theorem bound_iter {K : Nat} (hV : Uni V) : ∀ (n : NodeA) (j : Nat), Fine n → Cov V n → n.size ≤ big → n.size ≤ j → KR V n K → iter j (fun self q => r10_bound_body K self q) n = some (bndR n) := by
  refine NodeA.ind fun n ih => ?_
  intro j hf hc hb hj hK
  have hp := n.size_pos
  have hkl := n.kids_lt
  obtain ⟨j, rfl⟩ : ∃ i, j = i + 1 := ⟨j - 1, by omega⟩
  rw [iter_succ, bndR_eq]
  have ih' : ∀ k ∈ n.kids, iter j (fun self q => r10_bound_body K self q) k = some (bndR k) := fun k hk => ih k hk j (fine_kid hf hk) (cov_kid hc hk) (by have := NodeA.size_lt hk; omega) (by have := NodeA.size_lt hk; omega) (kr_kid hK hk)
  have hg : ∀ k ∈ n.kids, Good V (bndR k) := fun k hk => good_bndR hV k (fine_kid hf hk) (cov_kid hc hk)
  have hgn : namedS n.op = true → Good V (oneS n.name) ∧ Good V (oneS (n.name ++ tick)) ∧ n.name.size < 100 := good_name hV hf hc
  have hany : r10_anywhere K n = some (anyS n) := any_iter hV n K hf hc hb (by have := hK.2; omega) hK
  generalize iter j (fun self q => r10_bound_body K self q) = S at ih' ⊢
  have hloop : ∀ s0, Good V s0 → iter K (kidsJ K S n.kids) (0, s0) = some (unL s0 (n.kids.map bndR)) := fun s0 h0 => kidsJ_eq n.kids bndR ih' hg h0 hK.1 (by have := hK.2; omega) (by omega)
  have hK1 := hK.1
  have hkK : n.kids.length < K := by have := hK.2; omega
  unfold boundB
  by_cases h0 : sortS n.op = 2
  · rw [if_pos h0]; exact rbS h0 hany
  rw [if_neg h0]
  by_cases h3 : n.op = 55
  · have hn := hgn (named_b (by omega))
    have hu := join_eq hn.1 hn.2.1 hK1
    rw [if_pos h3]
    clear ih hj hp hkl hb hc hf ih' hg hgn hloop hK hany h0 hkK
    obtain ⟨op, m, r, ks⟩ := n
    simp only [NodeA.op_mk, NodeA.name_mk, NodeA.kids_mk] at h3 hn hu ⊢
    subst h3
    exact rb55 (catO_tick hn.2.2) hu
  rw [if_neg h3]
  by_cases h4 : n.op = 56 ∨ n.op = 61 ∨ n.op = 62
  · rw [if_pos h4]; exact rb56 h4
  rw [if_neg h4]
  by_cases h5 : n.op = 53
  · rw [if_pos h5]
    clear ih hj hp hkl hb hc hf ih' hg hgn hloop hK hany h0 hkK
    obtain ⟨op, m, r, ks⟩ := n
    simp only [NodeA.op_mk] at h5
    subst h5
    exact rb53
  rw [if_neg h5]
  by_cases h6 : n.op = 54
  · obtain ⟨_, hpos⟩ := flow_cut hf hb h6
    unfold big at hb
    have hl := loopJ (K := K) n.kids (IntKind.wrap .i64 ((n.kids.length : Int) - 1)) (n.kids.length - 1) (by rw [w64 (by omega) (by omega)]; omega) (by omega) bndR ih' hg (good_none hV false) hK1 hkK (by unfold big; omega)
    have el : (n.kids.map bndR).take ((n.kids.map bndR).length - 1) = (n.kids.take (n.kids.length - 1)).map bndR := by rw [List.length_map, List.map_take]
    rw [if_pos h6, el]
    clear ih hj hp hkl hb hc hf ih' hg hgn hloop hK hany h0 hkK hpos el
    obtain ⟨op, m, r, ks⟩ := n
    simp only [NodeA.op_mk, NodeA.kids_mk] at h6 hl ⊢
    subst h6
    exact rb54 hl
  rw [if_neg h6]
  by_cases h1 : n.op = 50 ∨ n.op = 52
  · rw [if_pos h1]
    exact rb50 h1 (hloop _ (hgn (named_b (by omega))).1)
  rw [if_neg h1]
  by_cases h2 : n.op = 51
  · have hn := hgn (named_b (by omega))
    have hl := hloop _ hn.2.1
    rw [if_pos h2]
    clear ih hj hp hkl hb hc hf ih' hg hgn hloop hK hany h0 hkK
    obtain ⟨op, m, r, ks⟩ := n
    simp only [NodeA.op_mk, NodeA.name_mk, NodeA.kids_mk] at h2 hn hl ⊢
    subst h2
    exact rb51 (catO_tick hn.2.2) hl
  rw [if_neg h2]
  exact rbN h0 h1 h2 h3 h4 h5 h6 (hloop _ (good_none hV _))
theorem r10_BoundOf_eq {K : Nat} (hV : Uni V) {n : NodeA} (hf : Fine n) (hc : Cov V n) (hb : n.size ≤ big) (hK : KR V n K) : r10_BoundOf K n = some (bndR n) := by
  unfold r10_BoundOf r10_bound
  exact ob _ (bound_iter hV n K hf hc hb (by have := hK.2; omega) hK) rfl
end
end Go.Proofs.YtngmfimpaembnaaGreatDoor
namespace Go.Proofs.YtngmfimpaembnaaGreatDoor
open Go Go.Iso Go.Proofs
set_option linter.unusedSimpArgs false
set_option linter.unusedVariables false
set_option maxRecDepth 100000
/-! ### Names exchanged in sets -/
def sgB (x y v : ByteArray) : ByteArray := if v.toList == x.toList then y else if v.toList == y.toList then x else if v.toList == (x ++ tick).toList then y ++ tick else if v.toList == (y ++ tick).toList then x ++ tick else v
section
variable {x y : ByteArray}
theorem tk_ne {x z : ByteArray} (h : nameB x = true) : x ≠ z ++ tick := fun e => name_last h (by rw [e]; exact tick_last)
theorem sg_x : sgB x y x = y := by unfold sgB; rw [if_pos (eqB.2 rfl)]
theorem sg_y : sgB x y y = x := by
  unfold sgB
  by_cases h : y = x
  · subst h; rw [if_pos (eqB.2 rfl)]
  · rw [if_neg (by rw [neB h]; simp), if_pos (eqB.2 rfl)]
theorem sg_xt (hx : nameB x = true) (hy : nameB y = true) : sgB x y (x ++ tick) = y ++ tick := by
  unfold sgB
  rw [if_neg (by rw [neB (tk_ne hx).symm]; simp), if_neg (by rw [neB (tk_ne hy).symm]; simp), if_pos (eqB.2 rfl)]
theorem sg_yt (hx : nameB x = true) (hy : nameB y = true) : sgB x y (y ++ tick) = x ++ tick := by
  unfold sgB
  rw [if_neg (by rw [neB (tk_ne hx).symm]; simp), if_neg (by rw [neB (tk_ne hy).symm]; simp)]
  by_cases h : y ++ tick = x ++ tick
  · rw [if_pos (eqB.2 h), h]
  · rw [if_neg (by rw [neB h]; simp), if_pos (eqB.2 rfl)]
theorem sg_o {v : ByteArray} (h1 : v ≠ x) (h2 : v ≠ y) (h3 : v ≠ x ++ tick) (h4 : v ≠ y ++ tick) : sgB x y v = v := by
  unfold sgB
  rw [if_neg (by rw [neB h1]; simp), if_neg (by rw [neB h2]; simp), if_neg (by rw [neB h3]; simp), if_neg (by rw [neB h4]; simp)]
theorem sg_cases (v : ByteArray) : v = x ∨ v = y ∨ v = x ++ tick ∨ v = y ++ tick ∨ (v ≠ x ∧ v ≠ y ∧ v ≠ x ++ tick ∧ v ≠ y ++ tick) := by
  by_cases h1 : v = x
  · exact .inl h1
  by_cases h2 : v = y
  · exact .inr (.inl h2)
  by_cases h3 : v = x ++ tick
  · exact .inr (.inr (.inl h3))
  by_cases h4 : v = y ++ tick
  · exact .inr (.inr (.inr (.inl h4)))
  · exact .inr (.inr (.inr (.inr ⟨h1, h2, h3, h4⟩)))
theorem sg_sg (hx : nameB x = true) (hy : nameB y = true) (v : ByteArray) : sgB x y (sgB x y v) = v := by
  rcases sg_cases (x := x) (y := y) v with h | h | h | h | ⟨h1, h2, h3, h4⟩
  · rw [h, sg_x, sg_y]
  · rw [h, sg_y, sg_x]
  · rw [h, sg_xt hx hy, sg_yt hx hy]
  · rw [h, sg_yt hx hy, sg_xt hx hy]
  · rw [sg_o h1 h2 h3 h4, sg_o h1 h2 h3 h4]
theorem sg_inj (hx : nameB x = true) (hy : nameB y = true) {u v : ByteArray} (h : sgB x y u = sgB x y v) : u = v := by
  have := congrArg (sgB x y) h; rwa [sg_sg hx hy, sg_sg hx hy] at this
theorem sg_var (hx : nameB x = true) (hy : nameB y = true) {v : ByteArray} (h : varB v = true) : varB (sgB x y v) = true := by
  rcases sg_cases (x := x) (y := y) v with e | e | e | e | ⟨h1, h2, h3, h4⟩
  · rw [e, sg_x]; exact name_var hy
  · rw [e, sg_y]; exact name_var hx
  · rw [e, sg_xt hx hy]; exact tick_var hy
  · rw [e, sg_yt hx hy]; exact tick_var hx
  · rw [sg_o h1 h2 h3 h4]; exact h
theorem tickB_name {z : ByteArray} (h : nameB z = true) : tickB z = false := by
  unfold tickB; exact beq_eq_false_iff_ne.2 (name_last h)
theorem tickB_tick {z : ByteArray} : tickB (z ++ tick) = true := by unfold tickB; rw [tick_last]; rfl
theorem sg_tickB (hx : nameB x = true) (hy : nameB y = true) (v : ByteArray) : tickB (sgB x y v) = tickB v := by
  rcases sg_cases (x := x) (y := y) v with e | e | e | e | ⟨h1, h2, h3, h4⟩
  · rw [e, sg_x, tickB_name hx, tickB_name hy]
  · rw [e, sg_y, tickB_name hx, tickB_name hy]
  · rw [e, sg_xt hx hy, tickB_tick, tickB_tick]
  · rw [e, sg_yt hx hy, tickB_tick, tickB_tick]
  · rw [sg_o h1 h2 h3 h4]
theorem sg_tick (hx : nameB x = true) (hy : nameB y = true) {v : ByteArray} (h : tickB v = false) : sgB x y (v ++ tick) = sgB x y v ++ tick := by
  rcases sg_cases (x := x) (y := y) v with e | e | e | e | ⟨h1, h2, h3, h4⟩
  · rw [e, sg_x, sg_xt hx hy]
  · rw [e, sg_y, sg_yt hx hy]
  · rw [e, tickB_tick] at h; cases h
  · rw [e, tickB_tick] at h; cases h
  · rw [sg_o h1 h2 h3 h4, sg_o (tk_ne hx).symm (tk_ne hy).symm (fun e => h1 (tick_inj e)) (fun e => h2 (tick_inj e))]
theorem sg_name (hx : nameB x = true) (hy : nameB y = true) {m : ByteArray} (h : nameB m = true) : sgB x y m = swB x y m := by
  by_cases h1 : m = x
  · rw [h1, sg_x, swB_x]
  by_cases h2 : m = y
  · rw [h2, sg_y, swB_y]
  rw [sg_o h1 h2 (tk_ne h) (tk_ne h), swB_o h1 h2]
theorem sg_namet (hx : nameB x = true) (hy : nameB y = true) {m : ByteArray} (h : nameB m = true) : sgB x y (m ++ tick) = swB x y m ++ tick := by
  rw [sg_tick hx hy (tickB_name h), sg_name hx hy h]
def imS (x y : ByteArray) (A : Api_NamesA) : Api_NamesA := ⟨A.all, sortB (A.list.map (sgB x y))⟩
structure Two (x y : ByteArray) (V : List ByteArray) : Prop where
  hx : nameB x = true
  hy : nameB y = true
  uni : Uni V
  mx : x ∈ V
  my : y ∈ V
  xt : x ++ tick ∈ V
  yt : y ++ tick ∈ V
variable {V : List ByteArray} {A B : Api_NamesA}
theorem sg_in (h : Two x y V) {v : ByteArray} (hv : v ∈ V) : sgB x y v ∈ V := by
  rcases sg_cases (x := x) (y := y) v with e | e | e | e | ⟨h1, h2, h3, h4⟩
  · rw [e, sg_x]; exact h.my
  · rw [e, sg_y]; exact h.mx
  · rw [e, sg_xt h.hx h.hy]; exact h.yt
  · rw [e, sg_yt h.hx h.hy]; exact h.xt
  · rw [sg_o h1 h2 h3 h4]; exact hv
theorem im_mem (h : Two x y V) {v : ByteArray} : v ∈ (imS x y A).list ↔ sgB x y v ∈ A.list := by
  show v ∈ sortB (A.list.map (sgB x y)) ↔ _
  rw [mem_sortB, List.mem_map]
  constructor
  · rintro ⟨u, hu, rfl⟩; rw [sg_sg h.hx h.hy]; exact hu
  · exact fun hv => ⟨_, hv, sg_sg h.hx h.hy v⟩
theorem good_im (h : Two x y V) (hA : Good V A) : Good V (imS x y A) :=
  ⟨sp_sort (nodup_map (fun _ _ e => sg_inj h.hx h.hy e) (sp_nodup hA.sp)), fun v hv => by
    have := hA.var _ ((im_mem h).1 hv)
    have h2 := sg_var h.hx h.hy this
    rwa [sg_sg h.hx h.hy] at h2, fun v hv => by
    have := sg_in h (hA.sub _ ((im_mem h).1 hv))
    rwa [sg_sg h.hx h.hy] at this, hA.uni⟩
theorem im_in (h : Two x y V) (v : ByteArray) : inS (imS x y A) v = inS A (sgB x y v) := by
  unfold inS
  rw [pB_iff (im_mem h)]; rfl
theorem im_union (h : Two x y V) (hA : Good V A) (hB : Good V B) : imS x y (unionS A B) = unionS (imS x y A) (imS x y B) :=
  good_ext (good_im h (good_union hA hB)) (good_union (good_im h hA) (good_im h hB)) (by show (unionS A B).all = _; rw [union_all, union_all]; rfl) fun v => by
    rw [im_in h, union_in hA hB, union_in (good_im h hA) (good_im h hB), im_in h, im_in h]
theorem im_not (h : Two x y V) (hA : Good V A) : imS x y (notS A) = notS (imS x y A) := rfl
theorem im_meet (h : Two x y V) (hA : Good V A) (hB : Good V B) : imS x y (meetS A B) = meetS (imS x y A) (imS x y B) := by
  unfold meetS
  rw [im_not h (good_union (good_not hA) (good_not hB)), im_union h (good_not hA) (good_not hB), im_not h hA, im_not h hB]
theorem im_minus (h : Two x y V) (hA : Good V A) (hB : Good V B) : imS x y (minusS A B) = minusS (imS x y A) (imS x y B) := by
  unfold minusS
  rw [im_meet h hA (good_not hB), im_not h hB]
theorem im_one (h : Two x y V) {m : ByteArray} (hm : Good V (oneS m)) (hm' : Good V (oneS (sgB x y m))) : imS x y (oneS m) = oneS (sgB x y m) :=
  good_ext (good_im h hm) hm' rfl fun v => by
    rw [im_in h]
    unfold inS
    have : pB (sgB x y v ∈ (oneS m).list) = pB (v ∈ (oneS (sgB x y m)).list) := pB_iff (by
      simp only [List.mem_singleton]
      constructor
      · rintro rfl; rw [sg_sg h.hx h.hy]
      · rintro rfl; rw [sg_sg h.hx h.hy])
    rw [this]
theorem im_e (h : Two x y V) (b : Bool) : imS x y ⟨b, []⟩ = ⟨b, []⟩ :=
  good_ext (good_im h (good_none h.uni b)) (good_none h.uni b) rfl fun v => by
    rw [im_in h]; unfold inS; rw [pB_false.2 (by simp), pB_false.2 (by simp)]
theorem im_name (h : Two x y V) {m : ByteArray} (hm : nameB m = true) (g : Good V (oneS m)) : imS x y (oneS m) = oneS (swB x y m) := by
  have hm' : m ∈ V := g.sub m (by simp)
  rw [im_one h g ?_, sg_name h.hx h.hy hm]
  exact good_one h.uni (sg_var h.hx h.hy (name_var hm)) (sg_in h hm')
theorem im_namet (h : Two x y V) {m : ByteArray} (hm : nameB m = true) (g : Good V (oneS (m ++ tick))) : imS x y (oneS (m ++ tick)) = oneS (swB x y m ++ tick) := by
  have hm' : m ++ tick ∈ V := g.sub _ (by simp)
  rw [im_one h g ?_, sg_namet h.hx h.hy hm]
  exact good_one h.uni (sg_var h.hx h.hy (tick_var hm)) (sg_in h hm')
theorem im_unL (h : Two x y V) : ∀ {l : List Api_NamesA} {s : Api_NamesA}, Good V s → (∀ a ∈ l, Good V a) → imS x y (unL s l) = unL (imS x y s) (l.map (imS x y))
  | [], s, _, _ => rfl
  | a :: l, s, hs, hl => by
    have ha := hl a (List.mem_cons_self ..)
    show imS x y (unL (unionS s a) l) = unL (unionS (imS x y s) (imS x y a)) (l.map (imS x y))
    rw [im_unL h (good_union hs ha) fun b hb => hl b (List.mem_cons_of_mem _ hb), im_union h hs ha]
theorem im_nth (h : Two x y V) (L : List Api_NamesA) (i : Nat) : nthS (L.map (imS x y)) i = imS x y (nthS L i) := by
  unfold nthS
  rw [List.getD_eq_getElem?_getD, List.getD_eq_getElem?_getD, List.getElem?_map]
  cases L[i]? with
  | none => exact (im_e h false).symm
  | some a => rfl
theorem prm_step {o : Api_NamesA} {u : ByteArray} {s : Api_NamesA} (hs : Good V s) (hu : u ∈ s.list) (ho : Good V o) : Good V (primF o u) ∧ ∀ v, inS (primF o u) v = true ↔ inS o v = true ∨ (tickB u = false ∧ v = u ++ tick) := by
  unfold primF
  cases ht : tickB u with
  | true => exact ⟨ho, fun v => by simp⟩
  | false =>
    have hne : u[u.size - 1]? ≠ some 39 := by unfold tickB at ht; simpa using ht
    have hvar := hs.var u hu
    have hn : nameB u = true := by unfold varB unpB at hvar; rwa [if_neg (fun h2 => hne h2.2)] at hvar
    have g1 : Good V (oneS (u ++ tick)) := good_one hs.uni (tick_var hn) (hs.uni.cls u (hs.sub u hu) hne)
    refine ⟨good_union ho g1, fun v => ?_⟩
    simp only [Bool.false_eq_true, if_false]
    rw [union_in ho g1, Bool.or_eq_true]
    have : inS (oneS (u ++ tick)) v = true ↔ v = u ++ tick := by
      unfold inS
      simp only [Bool.bne_false, pB_true, List.mem_singleton]
    rw [this]; simp
theorem prm_in {s : Api_NamesA} (hs : Good V s) (v : ByteArray) : inS (prmS s) v = true ↔ inS s v = true ∨ ∃ u ∈ s.list, tickB u = false ∧ v = u ++ tick := by
  have key : ∀ (l : List ByteArray) (o : Api_NamesA), Good V o → (∀ u ∈ l, u ∈ s.list) → (inS (l.foldl primF o) v = true ↔ inS o v = true ∨ ∃ u ∈ l, tickB u = false ∧ v = u ++ tick) := by
    intro l
    induction l with
    | nil => intro o _ _; simp
    | cons u l ih =>
      intro o ho hl
      obtain ⟨g, hi⟩ := prm_step hs (hl u (List.mem_cons_self ..)) ho
      rw [List.foldl_cons, ih _ g fun w hw => hl w (List.mem_cons_of_mem _ hw), hi]
      simp only [List.mem_cons, exists_eq_or_imp, or_assoc]
  exact key s.list s hs fun _ h => h
theorem prm_all {s : Api_NamesA} : (prmS s).all = s.all := by
  have key : ∀ (l : List ByteArray) (o : Api_NamesA), (l.foldl primF o).all = o.all := by
    intro l
    induction l with
    | nil => exact fun _ => rfl
    | cons u l ih =>
      intro o
      rw [List.foldl_cons, ih]
      unfold primF
      split
      · rfl
      · rw [union_all]; simp
  exact key s.list s
theorem im_prm (h : Two x y V) {s : Api_NamesA} (hs : Good V s) : imS x y (prmS s) = prmS (imS x y s) :=
  good_ext (good_im h (good_prim hs)) (good_prim (good_im h hs)) (by show (prmS s).all = _; rw [prm_all, prm_all]; rfl) fun v => by
    rw [im_in h, Bool.eq_iff_iff, prm_in hs, prm_in (good_im h hs), im_in h]
    refine or_congr Iff.rfl ⟨fun ⟨u, hu, ht, e⟩ => ⟨sgB x y u, (im_mem h).2 (by rw [sg_sg h.hx h.hy]; exact hu), by rw [sg_tickB h.hx h.hy]; exact ht, ?_⟩, fun ⟨u, hu, ht, e⟩ => ⟨sgB x y u, (im_mem h).1 hu, by rw [sg_tickB h.hx h.hy]; exact ht, ?_⟩⟩
    · rw [← sg_tick h.hx h.hy ht, ← e, sg_sg h.hx h.hy]
    · rw [e, sg_tick h.hx h.hy ht]
end
end Go.Proofs.YtngmfimpaembnaaGreatDoor
namespace Go.Proofs.YtngmfimpaembnaaGreatDoor
open Go Go.Iso Go.Proofs
set_option linter.unusedSimpArgs false
set_option linter.unusedVariables false
set_option maxRecDepth 100000
section
variable {x y : ByteArray} {V : List ByteArray}
theorem exN_v {op : Int} {m : ByteArray} (h : varOp op = true) : exN x y op m = swB x y m := by unfold exN; rw [if_pos h]
theorem v_of {op : Int} (h : op = 2 ∨ op = 3 ∨ op = 50 ∨ op = 51 ∨ op = 52 ∨ op = 55 ∨ op = 33 ∨ op = 34) : varOp op = true := varOp_iff.2 h
theorem map_im {l : List NodeA} {f : NodeA → Api_NamesA} (h : ∀ k ∈ l, f (exS x y k) = imS x y (f k)) : (l.map (exS x y)).map f = (l.map f).map (imS x y) := by
  rw [List.map_map, List.map_map]
  exact List.map_congr_left h
theorem im_self (h : Two x y V) {n : NodeA} (hf : Fine n) (hc : Cov V n) (hn : namedS n.op = true) : imS x y (oneS n.name) = oneS (swB x y n.name) ∧ imS x y (oneS (n.name ++ tick)) = oneS (swB x y n.name ++ tick) := by
  obtain ⟨g1, g2, _⟩ := good_name h.uni hf hc hn
  have hm := fine_name hf hn
  exact ⟨im_name h hm g1, im_namet h hm g2⟩
theorem im_flow (h : Two x y V) : ∀ {ks : List NodeA} {s : Api_NamesA}, Good V s → (∀ k ∈ ks, Fine k ∧ Cov V k) → (ks.map (exS x y)).foldl flowM (imS x y s) = imS x y (ks.foldl flowM s)
  | [], _, _, _ => rfl
  | k :: ks, s, hs, hk => by
    obtain ⟨hf, hc⟩ := hk k (List.mem_cons_self ..)
    have hg := good_flow (ks := [k]) h.uni (fun z hz => by rw [List.mem_singleton] at hz; subst hz; exact ⟨hf, hc⟩) s hs
    have e : flowM (imS x y s) (exS x y k) = imS x y (flowM s k) := by
      unfold flowM
      rw [exS_op]
      cases h55 : k.op == 55 with
      | false => rfl
      | true =>
        have ho : k.op = 55 := eq_of_beq h55
        have hn : namedS k.op = true := named_b (by omega)
        obtain ⟨g1, g2, _⟩ := good_name h.uni hf hc hn
        obtain ⟨i1, i2⟩ := im_self h hf hc hn
        simp only [if_true]
        rw [exS_name, exN_v (v_of (by omega)), im_union h hs (good_union g1 g2), im_union h g1 g2, i1, i2]
    show (ks.map (exS x y)).foldl flowM (flowM (imS x y s) (exS x y k)) = imS x y (ks.foldl flowM (flowM s k))
    rw [e]
    exact im_flow h hg fun z hz => hk z (List.mem_cons_of_mem _ hz)
theorem im_must (h : Two x y V) : ∀ n : NodeA, Fine n → Cov V n → mustS (exS x y n) = imS x y (mustS n) := by
  refine NodeA.ind fun n ih => ?_
  intro hf hc
  have hL : ∀ a ∈ n.kids.map mustS, Good V a := fun a ha => by obtain ⟨k, hk, rfl⟩ := List.mem_map.1 ha; exact good_must h.uni k (fine_kid hf hk) (cov_kid hc hk)
  have hm : (n.kids.map (exS x y)).map mustS = (n.kids.map mustS).map (imS x y) := map_im fun k hk => ih k hk (fine_kid hf hk) (cov_kid hc hk)
  rw [mustS_eq, mustS_eq n, exS_op, exS_name, exS_kids, hm]
  generalize n.kids.map mustS = L at hL
  unfold mustB
  split
  · rw [exN_v (v_of (by omega)), (im_self h hf hc (named_b (by omega))).1]
  split
  · rw [exN_v (v_of (by omega)), (im_self h hf hc (named_b (by omega))).2]
  split
  · have := im_flow h (ks := n.kids) (good_none h.uni false) fun k hk => ⟨fine_kid hf hk, cov_kid hc hk⟩
    rw [im_e h false] at this
    exact this
  split
  · rw [im_nth h, im_nth h, im_union h (good_nth h.uni hL 0) (good_nth h.uni hL 1)]
  split
  · rw [im_nth h, im_nth h, im_meet h (good_nth h.uni hL 0) (good_nth h.uni hL 1)]
  split
  · rw [im_nth h]
  · exact (im_e h false).symm
theorem im_free (h : Two x y V) : ∀ n : NodeA, Fine n → Cov V n → freeS (exS x y n) = imS x y (freeS n) := by
  refine NodeA.ind fun n ih => ?_
  intro hf hc
  have hL : ∀ a ∈ n.kids.map freeS, Good V a := fun a ha => by obtain ⟨k, hk, rfl⟩ := List.mem_map.1 ha; exact good_free h.uni k (fine_kid hf hk) (cov_kid hc hk)
  have hM : ∀ a ∈ n.kids.map mustS, Good V a := fun a ha => by obtain ⟨k, hk, rfl⟩ := List.mem_map.1 ha; exact good_must h.uni k (fine_kid hf hk) (cov_kid hc hk)
  have hm : (n.kids.map (exS x y)).map freeS = (n.kids.map freeS).map (imS x y) := map_im fun k hk => ih k hk (fine_kid hf hk) (cov_kid hc hk)
  have hm2 : (n.kids.map (exS x y)).map mustS = (n.kids.map mustS).map (imS x y) := map_im fun k hk => im_must h k (fine_kid hf hk) (cov_kid hc hk)
  rw [freeS_eq, freeS_eq n, exS_op, exS_name, exS_kids, hm, hm2]
  generalize n.kids.map freeS = L at hL
  generalize n.kids.map mustS = M at hM
  unfold freeB
  split
  · rw [exN_v (v_of (by omega)), (im_self h hf hc (named_b (by omega))).1]
  split
  · rw [exN_v (v_of (by omega)), (im_self h hf hc (named_b (by omega))).2]
  split
  · exact (im_e h true).symm
  split
  · rw [im_nth h]
    show (if (nthS L 0).all then allS else prmS (imS x y (nthS L 0))) = _
    split
    · exact (im_e h true).symm
    · rw [im_prm h (good_nth h.uni hL 0)]
  split
  · have hn : namedS n.op = true := named_b (by omega)
    rw [im_nth h, exN_v (v_of (by omega)), im_minus h (good_nth h.uni hL 0) (good_name h.uni hf hc hn).1, (im_self h hf hc hn).1]
  split
  · rw [im_nth h, im_nth h, im_nth h, im_union h (good_nth h.uni hL 0) (good_minus (good_nth h.uni hL 1) (good_nth h.uni hM 0)), im_minus h (good_nth h.uni hL 1) (good_nth h.uni hM 0)]
  split
  · have hn : namedS n.op = true := named_b (by omega)
    rw [exN_v (v_of (by omega)), im_union h (good_unL (good_none h.uni false) hL) (good_name h.uni hf hc hn).1, (im_self h hf hc hn).1, im_unL h (good_none h.uni false) hL, im_e h false]
  · rw [im_unL h (good_none h.uni false) hL, im_e h false]
end
end Go.Proofs.YtngmfimpaembnaaGreatDoor
namespace Go.Proofs.YtngmfimpaembnaaGreatDoor
open Go Go.Iso Go.Proofs
set_option linter.unusedSimpArgs false
set_option linter.unusedVariables false
set_option maxRecDepth 100000
def uniT (n : NodeA) (x y : ByteArray) : List ByteArray := uniL n ++ [x, y, x ++ tick, y ++ tick]
theorem two_uni {n : NodeA} {x y : ByteArray} (hb : n.size ≤ 100000000) (hx : nameB x = true) (hy : nameB y = true) : Two x y (uniT n x y) := by
  have hu := uni_uni (n := n) hb
  have sx := (name_size hx).2
  have sy := (name_size hy).2
  refine ⟨hx, hy, ⟨fun v hv => ?_, ?_, fun v hv h39 => ?_⟩, by simp [uniT], by simp [uniT], by simp [uniT], by simp [uniT]⟩
  · rcases List.mem_append.1 hv with hv | hv
    · exact hu.siz v hv
    · simp only [List.mem_cons, List.not_mem_nil, or_false] at hv
      rcases hv with rfl | rfl | rfl | rfl
      · omega
      · omega
      · rw [tick_size]; omega
      · rw [tick_size]; omega
  · unfold uniT uniL topV
    rw [List.length_append, List.length_append, List.length_map]
    have := List.length_filter_le nameB (namesN n)
    rw [names_len] at this
    simp; omega
  · rcases List.mem_append.1 hv with hv | hv
    · exact List.mem_append_left _ (hu.cls v hv h39)
    · simp only [List.mem_cons, List.not_mem_nil, or_false] at hv
      rcases hv with rfl | rfl | rfl | rfl
      · simp [uniT]
      · simp [uniT]
      · exact absurd tick_last h39
      · exact absurd tick_last h39
theorem cov_T {n : NodeA} {x y : ByteArray} : Cov (uniT n x y) n := fun v hv hn => by
  obtain ⟨h1, h2⟩ := cov_uni n v hv hn
  exact ⟨List.mem_append_left _ h1, List.mem_append_left _ h2⟩
theorem names_ex {x y : ByteArray} : ∀ (n : NodeA) (v : ByteArray), v ∈ namesN (exS x y n) → v ∈ namesN n ∨ v = x ∨ v = y := by
  refine NodeA.ind fun n ih => ?_
  intro v hv
  cases n with
  | mk o m r ks =>
    rw [exS_mk, names_mk, List.mem_cons] at hv
    rw [names_mk, List.mem_cons]
    rcases hv with rfl | hv
    · unfold exN
      split
      · unfold swB
        split
        · exact .inr (.inr rfl)
        · split
          · exact .inr (.inl rfl)
          · exact .inl (.inl rfl)
      · exact .inl (.inl rfl)
    · obtain ⟨l, hl, hv⟩ := List.mem_flatten.1 hv
      rw [List.map_map] at hl
      obtain ⟨k, hk, rfl⟩ := List.mem_map.1 hl
      rcases ih k hk v hv with h | h
      · exact .inl (.inr (List.mem_flatten.2 ⟨_, List.mem_map_of_mem hk, h⟩))
      · exact .inr h
end Go.Proofs.YtngmfimpaembnaaGreatDoor
