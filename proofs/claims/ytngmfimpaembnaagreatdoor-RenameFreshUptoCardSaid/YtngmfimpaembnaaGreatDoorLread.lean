/- Part of the proof of a law: contracts of the functions that the law reaches, or plain laws of them, out of the abstract layer (the texts YtngmfimpaembnaaGreatDoorIso..). No condition. -/
import Derived.Test.YtngmfimpaembnaaGreatDoorIsoZ
import Derived.Test.YtngmfimpaembnaaGreatDoorRows
import Derived.Test.YtngmfimpaembnaaGreatDoorW
import Derived.Lib.SmallJoins
import Derived.Deep.Strs
namespace Go.Proofs.YtngmfimpaembnaaGreatDoor
open Go Go.Iso Go.Proofs Go.RowKit Go.ChangeShapes Go.WideShapes Go.ChangeAt
set_option linter.unusedVariables false
set_option linter.unusedSimpArgs false
set_option maxRecDepth 100000
/-! ### Trees as they are read -/
theorem u32_wf {z : Int} (h : (Lit.int .u32 z).wf = true) : 0 ≤ z ∧ z < 4294967296 := by
  simp [Lit.wf, IntKind.min, IntKind.max, IntKind.signed, IntKind.bits] at h; omega
theorem words_rep {H : Type} {enc : TypeId × Value → H} {W : World} {fuel : Nat} {cs : List Value} {x : DataW H × List MemPlace} (h : DataW.trod enc Tryz.prog W 0 (fun _ => true) true fuel 22 cs = some x) :
    ∃ (l : List Int) (c : Value), cs = [c] ∧ RepD (there W) W (slD u32V l) c ∧ ∀ z ∈ l, 0 ≤ z ∧ z < 4294967296 := by
  obtain ⟨l, c, h1, h2, h3⟩ := slice_rep u32V (s := 1) Tryz.underlying22 (by kernel_rfl) (by omega) (fun _ => rfl) (fun z _ => 0 ≤ z ∧ z < 4294967296) (fun n cs' y _ hy => by
    obtain ⟨z, h1, h2⟩ := int_cell Tryz.underlying99 hy
    exact ⟨z, h1, u32_wf h2⟩) h
  refine ⟨l, c, h1, h2, fun z hz => ?_⟩
  rcases h3 with ⟨_, rfl⟩ | ⟨ys, rest, _, hl, hq⟩
  · cases hz
  · obtain ⟨i, hi, rfl⟩ := List.mem_iff_getElem.1 hz
    exact hq i hi (by omega)
theorem rat_rep {H : Type} {enc : TypeId × Value → H} {W : World} {fuel : Nat} {cs : List Value} {x : DataW H × List MemPlace} (h : DataW.trod enc Tryz.prog W 0 (fun _ => true) true fuel 24 cs = some x) :
    ∃ r : RatA, RowRep W r.enc cs ∧ r.words := by
  obtain ⟨y0, y1, y2, n, rfl, hl, h0, h1, h2⟩ := Go.Deep.trod_struct3 Tryz.underlying24 h
  have hc : Tryz.prog.cellsOf 24 = 3 := by kernel_rfl
  have hc4 : Tryz.prog.cellsOf 4 = 1 := by kernel_rfl
  have hc36 : Tryz.prog.cellsOf 22 = 1 := by kernel_rfl
  rw [hc] at hl
  match cs, hl with
  | [u, v, w], _ =>
    simp only [hc4, hc36, List.drop_zero, List.take_succ_cons, List.take_zero, List.drop_succ_cons] at h0 h1 h2
    obtain ⟨b, e0, _⟩ := DataW.trod_bool Tryz.underlying4 h0
    obtain ⟨l1, c1, e1, r1, w1⟩ := words_rep h1
    obtain ⟨l2, c2, e2, r2, w2⟩ := words_rep h2
    cases e0; cases e1; cases e2
    refine ⟨⟨b, l1, l2⟩, ⟨rfl, fun j hj => ?_⟩, w1, w2⟩
    match j, hj with
    | 0, _ => exact .val _ rfl
    | 1, _ => exact r1
    | 2, _ => exact r2
theorem bulk_slice {H : Type} {ys rest : List (DataW H)} : Rows.uptoBulk (.slice ys rest) = Rows.uptoBulkAll ys + Rows.uptoBulkAll rest + 1 := by rw [Rows.uptoBulk]
theorem bulk_ge {H : Type} : ∀ {l : List NodeA} {ys : List (DataW H)}, l.length = ys.length → (∀ i (h1 : i < l.length) (h2 : i < ys.length), l[i].size ≤ Rows.uptoBulk ys[i]) → (l.map NodeA.size).sum ≤ Rows.uptoBulkAll ys
  | [], _, _, _ => by simp
  | x :: l, [], h, _ => by simp at h
  | x :: l, y :: ys, h, hq => by
    have h0 := hq 0 (by simp) (by simp)
    have := bulk_ge (l := l) (ys := ys) (by simpa using h) fun i h1 h2 => by
      have := hq (i + 1) (by simpa using h1) (by simpa using h2); simpa using this
    rw [Rows.uptoBulkAll, List.map_cons, List.sum_cons]
    simp at h0; omega
theorem node_row {H : Type} {enc : TypeId × Value → H} {W : World} : ∀ (fuel : Nat) (cs : List Value) (x : DataW H × List MemPlace), DataW.trod enc Tryz.prog W 0 (fun _ => true) true fuel 27 cs = some x →
    ∃ n : NodeA, RowRep W n.enc cs ∧ n.words ∧ n.size ≤ Rows.uptoBulk x.1 := by
  intro fuel
  induction fuel using Nat.strongRecOn with
  | _ fuel ih =>
    intro cs x h
    obtain ⟨xs, n, hfu, rfl, hl, hlen, hfs⟩ := DataW.trod_struct Tryz.underlying27 h
    have hc : Tryz.prog.cellsOf 27 = 6 := by kernel_rfl
    have hc1 : Tryz.prog.cellsOf 3 = 1 := by kernel_rfl
    have hc2 : Tryz.prog.cellsOf 9 = 1 := by kernel_rfl
    have hc3 : Tryz.prog.cellsOf 24 = 3 := by kernel_rfl
    have hc4 : Tryz.prog.cellsOf 25 = 1 := by kernel_rfl
    rw [hc] at hl
    match xs, hlen with
    | [y0, y1, y2, y3], _ =>
    match cs, hl with
    | [u0, u1, u2, u3, u4, u5], _ =>
      have h0 := hfs 0 _ rfl
      have h1 := hfs 1 _ rfl
      have h2 := hfs 2 _ rfl
      have h3 := hfs 3 _ rfl
      simp only [hc1, hc2, hc3, hc4, List.drop_zero, List.take_succ_cons, List.take_zero, List.drop_succ_cons, List.getElem?_cons_zero, List.getElem?_cons_succ] at h0 h1 h2 h3
      obtain ⟨z, e0, _, _⟩ := DataW.trod_int Tryz.underlying3 h0
      obtain ⟨s, e1, _, hs⟩ := DataW.trod_string Tryz.underlying9 h1
      obtain ⟨r, r2, w2⟩ := rat_rep h2
      obtain ⟨l, c, e3, r3, q3⟩ := slice_rep NodeA.enc (s := 6) Tryz.underlying25 (by kernel_rfl) (by omega) NodeA.enc_len (fun k y => k.words ∧ k.size ≤ Rows.uptoBulk y) (fun m cs' y hm hy => ih m (by omega) cs' y hy) h3
      cases e0; cases e1; cases e3
      refine ⟨.mk z s r l, ⟨by rw [NodeA.enc_mk]; rfl, fun j hj => ?_⟩, ?_, ?_⟩
      · have hr := r2.2
        have e : (NodeA.mk z s r l).enc = [.val (.int .i64 z), .val (.string s), .val (.bool r.neg), slD u32V r.num, slD u32V r.den, slD NodeA.enc l] := NodeA.enc_mk
        have hj6 : j < 6 := by rw [e] at hj; exact hj
        have key : ∀ (ds : List D), ds = (NodeA.mk z s r l).enc → ∀ hj : j < ds.length, RepD (there W) W ds[j] ([Value.int .i64 z, .string s, u2, u3, u4, u5].getD j undef) := by
          intro ds hd hj
          rw [e] at hd; subst hd
          match j, hj6 with
          | 0, _ => exact .val _ rfl
          | 1, _ => exact .val _ (by rw [maxLen_eq] at hs; simpa [okVal] using hs)
          | 2, _ => exact hr 0 (by simp [RatA.enc])
          | 3, _ => exact hr 1 (by simp [RatA.enc])
          | 4, _ => exact hr 2 (by simp [RatA.enc])
          | 5, _ => exact r3
        exact key _ rfl hj
      · rw [NodeA.words_mk]
        refine ⟨w2, fun k hk => ?_⟩
        rcases q3 with ⟨_, rfl⟩ | ⟨ys, rest, _, hl3, hq⟩
        · cases hk
        · obtain ⟨i, hi, rfl⟩ := List.mem_iff_getElem.1 hk
          exact (hq i hi (by omega)).1
      · rw [NodeA.size_mk]
        simp only [List.map_cons, List.map_nil]
        rw [Rows.uptoBulk]
        simp only [Rows.uptoBulkAll]
        rcases q3 with ⟨_, rfl⟩ | ⟨ys, rest, e4, hl3, hq⟩
        · simp
        · have := bulk_ge hl3 fun i h1 h2 => (hq i h1 h2).2
          rw [e4, bulk_slice]; omega
theorem node_rep {H : Type} {enc : TypeId × Value → H} {W : World} {base : Nat} {v : Value} {d : DataW H} {ps : List MemPlace} (hval : Value.okWide Tryz.prog W .any base 27 v) (h : DataW.Trod enc Tryz.prog W 0 (fun _ => true) true 27 v d ps) :
    ∃ n : NodeA, RepV (fun _ => none) (there W) W (aggV n.enc) v ∧ n.words ∧ n.size ≤ Rows.uptoBulk d := by
  obtain ⟨cs, rfl, hs⟩ := okWide_struct Tryz.underlying27 hval
  obtain ⟨fuel, hf⟩ := h
  obtain ⟨n, h1, h2, h3⟩ := node_row fuel _ _ hf
  obtain ⟨cs⟩ := cs
  refine ⟨n, .agg (by have := h1.1; simp only [Value.cells] at this; simp [this]) fun i hi => ?_, h2, h3⟩
  have := h1.2 i (by simpa using hi)
  simp only [Value.cells] at this
  rw [List.getElem_map]
  refine .d ?_
  simpa [Array.getD_eq_getD_getElem?, List.getD_eq_getElem?_getD] using this
end Go.Proofs.YtngmfimpaembnaaGreatDoor
