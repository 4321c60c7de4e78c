/- A substitution without pairs, and one whose symbols do not occur in a tree, change nothing: for arguments of bulk at most 1048576. -/
import Derived.Test.YtfnfjjgphhoigaaGreatLread
import Derived.JoinedCond
import Derived.Deep.CondSized
namespace Go.Proofs.YtfnfjjgphhoigaaGreat.substKeeps
open Go.ChangeShapes Go.WideShapes Go.ChangeAt Go.RowKit Go.Iso
open Go.ChangeMaps (open_string shut_string)
set_option linter.unusedVariables false
set_option maxRecDepth 100000
theorem bulk_at {H : Type} : ∀ {ys : List (DataW H)} (i : Nat) (h : i < ys.length), Rows.uptoBulk ys[i] ≤ Rows.uptoBulkAll ys
  | y :: ys, 0, h => by rw [Rows.uptoBulkAll]; simp
  | y :: ys, i + 1, h => by
    have := bulk_at (ys := ys) i (by simpa using h)
    rw [Rows.uptoBulkAll]
    simp only [List.getElem_cons_succ]; omega
theorem pair_row {H : Type} {enc : TypeId × Value → H} {W : World} (fuel : Nat) (cs : List Value) (x : DataW H × List MemPlace) (h : DataW.trod enc Tryz.prog W 0 (fun _ => true) true fuel 38 cs = some x) :
    ∃ p : Api_PairA, RowRep W p.enc cs ∧ (p.what.words ∧ p.with_.words ∧ (∀ r ∈ p.rates, r.words) ∧ p.what.size ≤ Rows.uptoBulk x.1 ∧ p.with_.size ≤ Rows.uptoBulk x.1 ∧ (p.rates.map NodeA.size).sum ≤ Rows.uptoBulk x.1) := by
  obtain ⟨y0, y1, y2, n, rfl, hl, h0, h1, h2⟩ := Go.Deep.trod_struct3 Tryz.underlying38 h
  have hc : Tryz.prog.cellsOf 38 = 13 := by kernel_rfl
  have hc1 : Tryz.prog.cellsOf 27 = 6 := by kernel_rfl
  have hc2 : Tryz.prog.cellsOf 25 = 1 := by kernel_rfl
  rw [hc] at hl
  match cs, hl with
  | [a0, a1, a2, a3, a4, a5, b0, b1, b2, b3, b4, b5, c0], _ =>
    simp only [hc1, hc2, List.drop_zero, List.take_succ_cons, List.take_zero, List.drop_succ_cons] at h0 h1 h2
    obtain ⟨u, ru, wu, su⟩ := node_row _ _ _ h0
    obtain ⟨v, rv, wv, sv⟩ := node_row _ _ _ h1
    obtain ⟨l, c, e3, r3, q3⟩ := slice_rep NodeA.enc (s := 6) Tryz.underlying25 (by kernel_rfl) (by omega) NodeA.enc_len (fun k y => k.words ∧ k.size ≤ Rows.uptoBulk y) (fun m cs' y hm hy => node_row m cs' y hy) h2
    cases e3
    refine ⟨⟨u, v, l⟩, ⟨by rw [Api_PairA.enc_eta]; rfl, fun j hj => ?_⟩, wu, wv, fun k hk => ?_, ?_, ?_, ?_⟩
    · obtain ⟨o, m, r, ks⟩ := u
      obtain ⟨o', m', r', ks'⟩ := v
      have e : (Api_PairA.mk (NodeA.mk o m r ks) (NodeA.mk o' m' r' ks') l).enc = (NodeA.mk o m r ks).enc ++ (NodeA.mk o' m' r' ks').enc ++ [slD NodeA.enc l] := by
        rw [Api_PairA.enc_eta, NodeA.enc_mk, NodeA.enc_mk]; rfl
      have e1 : (NodeA.mk o m r ks).enc = [.val (.int .i64 o), .val (.string m), .val (.bool r.neg), slD u32V r.num, slD u32V r.den, slD NodeA.enc ks] := NodeA.enc_mk
      have e2 : (NodeA.mk o' m' r' ks').enc = [.val (.int .i64 o'), .val (.string m'), .val (.bool r'.neg), slD u32V r'.num, slD u32V r'.den, slD NodeA.enc ks'] := NodeA.enc_mk
      have k1 := ru.2
      have k2 := rv.2
      simp only [e1] at k1
      simp only [e2] at k2
      rw [e1, e2] at e
      have hj13 : j < 13 := by rw [e] at hj; exact hj
      have key : ∀ (ds : List D), ds = (Api_PairA.mk (NodeA.mk o m r ks) (NodeA.mk o' m' r' ks') l).enc → ∀ hj : j < ds.length, RepD (there W) W ds[j] ([a0, a1, a2, a3, a4, a5, b0, b1, b2, b3, b4, b5, c0].getD j undef) := by
        intro ds hd hj
        rw [e] at hd; subst hd
        match j, hj13 with
        | 0, _ => exact k1 0 (by simp)
        | 1, _ => exact k1 1 (by simp)
        | 2, _ => exact k1 2 (by simp)
        | 3, _ => exact k1 3 (by simp)
        | 4, _ => exact k1 4 (by simp)
        | 5, _ => exact k1 5 (by simp)
        | 6, _ => exact k2 0 (by simp)
        | 7, _ => exact k2 1 (by simp)
        | 8, _ => exact k2 2 (by simp)
        | 9, _ => exact k2 3 (by simp)
        | 10, _ => exact k2 4 (by simp)
        | 11, _ => exact k2 5 (by simp)
        | 12, _ => exact r3
      exact key _ rfl hj
    · rcases q3 with ⟨_, rfl⟩ | ⟨ys, rest, _, hl3, hq⟩
      · cases hk
      · obtain ⟨i, hi, rfl⟩ := List.mem_iff_getElem.1 hk
        have hi' : i < l.length := hi
        exact (hq i hi' (by omega)).1
    · rw [Rows.uptoBulk]
      simp only [Rows.uptoBulkAll]; omega
    · rw [Rows.uptoBulk]
      simp only [Rows.uptoBulkAll]; omega
    · rw [Rows.uptoBulk]
      simp only [Rows.uptoBulkAll]
      rcases q3 with ⟨_, rfl⟩ | ⟨ys, rest, e4, hl3, hq⟩
      · simp
      · have := bulk_ge hl3 fun i h1 h2 => (hq i h1 h2).2
        rw [e4, bulk_slice]; omega
theorem pairs_rep {H : Type} {enc : TypeId × Value → H} {W : World} {base : Nat} {v : Value} {d : DataW H} {ps : List MemPlace} (hval : Value.okWide Tryz.prog W .any base 28 v) (h : DataW.Trod enc Tryz.prog W 0 (fun _ => true) true 28 v d ps) :
    ∃ l : List Api_PairA, RepD (there W) W (slD Api_PairA.enc l) v ∧ ∀ p ∈ l, p.what.words ∧ p.with_.words ∧ (∀ r ∈ p.rates, r.words) ∧ p.what.size ≤ Rows.uptoBulk d ∧ p.with_.size ≤ Rows.uptoBulk d ∧ (p.rates.map NodeA.size).sum ≤ Rows.uptoBulk d := by
  obtain ⟨a, len, cap, rfl⟩ := okWide_slice Tryz.underlying28 hval
  obtain ⟨fuel, hf⟩ := h
  obtain ⟨l, c, h1, h2, h3⟩ := slice_rep Api_PairA.enc (s := 13) Tryz.underlying28 (by kernel_rfl) (by omega) (fun p => by rw [Api_PairA.enc_eta]; rfl) (fun p y => p.what.words ∧ p.with_.words ∧ (∀ r ∈ p.rates, r.words) ∧ p.what.size ≤ Rows.uptoBulk y ∧ p.with_.size ≤ Rows.uptoBulk y ∧ (p.rates.map NodeA.size).sum ≤ Rows.uptoBulk y) (fun n cs' y _ hy => pair_row n cs' y hy) hf
  simp only [Value.cells, List.cons.injEq, and_true] at h1
  subst h1
  refine ⟨l, h2, fun p hp => ?_⟩
  rcases h3 with ⟨_, rfl⟩ | ⟨ys, rest, e, hl, hq⟩
  · cases hp
  · obtain ⟨i, hi, rfl⟩ := List.mem_iff_getElem.1 hp
    obtain ⟨q1, q2, q3, q4, q5, q6⟩ := hq i hi (by omega)
    have hb := bulk_at (ys := ys) i (by omega)
    have : Rows.uptoBulk d = Rows.uptoBulkAll ys + Rows.uptoBulkAll rest + 1 := by
      have e : d = .slice ys rest := e
      rw [e, bulk_slice]
    exact ⟨q1, q2, q3, by omega, by omega, by omega⟩
theorem own : ownKnob Tryz.prog.godebug = none := by kernel_rfl
theorem laidOut : laidOutB Tryz.prog = true := by kernel_rfl
theorem lifted (os : Os) (started : os.Started) (H : Type) (enc : TypeId × Value → H) (F : Stop.Interp) :
    ReturnsInHanded {} Tryz.checked os 3 .any ((Rows.OpenSpec.upto Rows.substKeepsSpec).pre6 enc Tryz.prog Tryz.f3 Rows.substKeepsUptoRow.domain false) (((Rows.OpenSpec.upto Rows.substKeepsSpec).at F).post enc Tryz.prog Tryz.f3 false true false false) := by
  refine returnsInHanded_of_cond_sized (C := Tryz.checked) (s := Rows.OpenSpec.upto Rows.substKeepsSpec) (k := Rows.uptoSmall) rfl own started (by kernel_rfl) Tryz.func3
    (OpenSpec.witness (enc := enc) (C := Tryz.checked) (s := Rows.OpenSpec.upto Rows.substKeepsSpec) (k := Rows.uptoSmall) rfl false ⟨#[], #[.agg #[.int .i64 0, .string ByteArray.empty, .bool false, .slice none 0 0, .slice none 0 0, .slice none 0 0], .slice none 0 0], []⟩ 8 (by kernel_rfl) (by kernel_rfl) (by kernel_rfl)
      (x := ([.agg [.lit (.int .i64 0), .lit (.string []), .agg [.lit (.bool false), .nil, .nil], .nil], .nil], [], [])) (by kernel_rfl) rfl (by kernel_rfl)) ?_
  intro W base args ds gs before hval0 hW hcnd hk hsz0 _
  have hval : ∀ (j : Nat) t v, Tryz.f3.params[j]? = some t → args[j]? = some v → Value.okWide Tryz.prog W .any base t v := hval0
  have hW' := hW
  obtain ⟨p, q, hA0, hV, rfl, hfz, hnd⟩ := hW
  have hA : DataW.TrodAll enc Tryz.prog W 0 (fun _ => true) true Tryz.f3.params.toList args.toList ds p := hA0
  rw [Tryz.params3] at hA hval
  obtain ⟨v0, vs0, d0, ds0, p0, q0, hargs, rfl, rfl, h0, r0⟩ := trodAll_cons hA
  obtain ⟨v1, vs1, d1, ds1, p1, q1, rfl, rfl, rfl, h1, r1⟩ := trodAll_cons r0
  obtain ⟨rfl, rfl, rfl⟩ := trodAll_nil r1
  obtain rfl : args = #[v0, v1] := by cases args; simp_all
  obtain ⟨rfl, rfl⟩ := trodVars_none hV
  obtain ⟨n, rn, wn, bn⟩ := node_rep (hval 0 27 v0 rfl rfl) h0
  obtain ⟨l, rl, ql⟩ := pairs_rep (hval 1 28 v1 rfl rfl) h1
  have lt0 : ∀ x ∈ p0, x.block < W.heap.size := by obtain ⟨m, hm⟩ := h0; exact DataW.trod_lt m _ _ _ hm
  have lt1 : ∀ x ∈ p1, x.block < W.heap.size := by obtain ⟨m, hm⟩ := h1; exact DataW.trod_lt m _ _ _ hm
  have hbulk := of_decide_eq_true hk
  simp only [List.append_nil, Rows.uptoBulkAll] at hbulk
  obtain ⟨K, hlaw⟩ := keeps_law (n := n) (P := l) ⟨by omega, wn⟩ (fun p hp => by
    obtain ⟨q1, q2, q3, q4, q5, q6⟩ := ql p hp
    exact ⟨⟨by omega, q1⟩, ⟨by omega, q2⟩, q3, by omega⟩)
  have hc := (law17_SubstKeeps_ok hlaw).2 (there W) W #[v0, v1] ⟨fun b hb => hb, fun g cs hg => by cases hg⟩ ⟨rfl, fun i hi => by
    match i, hi with
    | 0, _ => exact rn
    | 1, _ => exact .d rl⟩
  clear hA0 hval0 hsz0
  refine hc.mono fun e W' ⟨c, I', he, hp, hv⟩ => ?_
  have hcv : c = .bool true := hv.val rfl
  subst he hcv
  have bel : Below W.heap.size W W' := hp.below
  exact ⟨_, rfl, _, _, _, [], _, [], hW', trodAll_mk1 (shut_bool Tryz.underlying4 _), (trodAll_cons_mk (Below.trod laidOut (by kernel_rfl) (of_decide_eq_true (by kernel_rfl)) h0 bel lt0) (trodAll_cons_mk (Below.trod laidOut (by kernel_rfl) (of_decide_eq_true (by kernel_rfl)) h1 bel lt1) trodAll_mk0)), rfl, bel.frame _, fun h => by cases h⟩
theorem over : Rows.substKeepsUptoRow.holds Tryz.pinned (Rows.OpenSpec.upto Rows.substKeepsSpec) :=
  OpenClaim.holds_of_cond 3 Tryz.f3 rfl rfl rfl rfl rfl rfl rfl ⟨rfl, rfl, rfl, rfl, rfl⟩ rfl rfl rfl rfl rfl (by kernel_rfl) Tryz.func3 (by kernel_rfl)
    (of_decide_eq_true (by kernel_rfl)) (by unfold Func.isWrapper; first | (rw [if_pos (by decide +kernel)]; kernel_rfl) | (rw [if_neg (by decide +kernel)]; exact ⟨rfl, rfl⟩))
    (fun os started H enc _ F => lifted os started H enc F)
theorem proved : Rows.SubstKeepsUptoSaid := over
#print axioms proved
end Go.Proofs.YtfnfjjgphhoigaaGreat.substKeeps
