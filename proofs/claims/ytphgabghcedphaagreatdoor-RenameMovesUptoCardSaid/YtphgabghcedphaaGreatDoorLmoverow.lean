/- A formula without quantifiers and modalities with two names exchanged has the same truth where their values and those of their primes are exchanged: for arguments of bulk at most 1048576, the listed package variables as the text lays them. -/
import Derived.Test.YtphgabghcedphaaGreatDoorLread
import Derived.Test.YtphgabghcedphaaGreatDoorLmovelaw
import Derived.Test.YtphgabghcedphaaGreatDoorCards
import Derived.Test.YtphgabghcedphaaGreatDoorTie
import Derived.JoinedCond
import Derived.Deep.DeepHandedRow
import Derived.Lib.LaidTab
namespace Go.Proofs.YtphgabghcedphaaGreatDoor.renameMoves
open Go.ChangeShapes Go.WideShapes Go.ChangeAt Go.RowKit Go.Iso
open Go.ChangeMaps (open_string shut_string)
set_option linter.unusedVariables false
set_option maxRecDepth 100000
theorem bulk_at {H : Type} : ∀ {ys : List (DataW H)} (i : Nat) (h : i < ys.length), Rows.uptoBulk ys[i] ≤ Rows.uptoBulkAll ys
  | y :: ys, 0, h => by rw [Rows.uptoBulkAll]; simp
  | y :: ys, i + 1, h => by
    have := bulk_at (ys := ys) i (by simpa using h)
    rw [Rows.uptoBulkAll]
    simp only [List.getElem_cons_succ]; omega
theorem bind_row {H : Type} {enc : TypeId × Value → H} {W : World} (fuel : Nat) (cs : List Value) (x : DataW H × List MemPlace) (h : DataW.trod enc Tryz.prog W 0 (fun _ => true) true fuel 91 cs = some x) :
    ∃ p : Api_BindingA, RowRep W p.enc cs ∧ (p.val.words ∧ p.name.size ≤ Rows.uptoBulk x.1) := by
  obtain ⟨y0, y1, n, rfl, hl, h0, h1⟩ := trod_struct2 Tryz.underlying91 h
  have hc : Tryz.prog.cellsOf 91 = 4 := by kernel_rfl
  have hc1 : Tryz.prog.cellsOf 9 = 1 := by kernel_rfl
  have hc2 : Tryz.prog.cellsOf 24 = 3 := by kernel_rfl
  rw [hc] at hl
  match cs, hl with
  | [a0, b0, b1, b2], _ =>
    simp only [hc1, hc2, List.drop_zero, List.take_succ_cons, List.take_zero, List.drop_succ_cons] at h0 h1
    obtain ⟨s, e1, e2, hs⟩ := DataW.trod_string Tryz.underlying9 h0
    obtain ⟨r, rr, wr⟩ := rat_rep h1
    cases e1
    refine ⟨⟨s, r⟩, ⟨by rw [Api_BindingA.enc_eta]; rfl, fun j hj => ?_⟩, wr, ?_⟩
    · have k1 := rr.2
      have e : (Api_BindingA.mk s r).enc = [.val (.string s), .val (.bool r.neg), slD u32V r.num, slD u32V r.den] := by rw [Api_BindingA.enc_eta]
      have hj4 : j < 4 := by rw [e] at hj; exact hj
      have key : ∀ (ds : List D), ds = (Api_BindingA.mk s r).enc → ∀ hj : j < ds.length, RepD (there W) W ds[j] ([Value.string s, b0, b1, b2].getD j undef) := by
        intro ds hd hj
        rw [e] at hd; subst hd
        match j, hj4 with
        | 0, _ => exact .val _ (by rw [maxLen_eq] at hs; simpa [okVal] using hs)
        | 1, _ => exact k1 0 (by simp [RatA.enc])
        | 2, _ => exact k1 1 (by simp [RatA.enc])
        | 3, _ => exact k1 2 (by simp [RatA.enc])
      exact key _ rfl hj
    · subst e2
      rw [Rows.uptoBulk]
      simp only [Rows.uptoBulkAll, Rows.uptoBulk]
      have : s.data.toList.length = s.size := by rw [Array.length_toList]; rfl
      omega
theorem state_rep {H : Type} {enc : TypeId × Value → H} {W : World} {base : Nat} {v : Value} {d : DataW H} {ps : List MemPlace} (hval : Value.okWide Tryz.prog W .any base 29 v) (h : DataW.Trod enc Tryz.prog W 0 (fun _ => true) true 29 v d ps) :
    ∃ l : List Api_BindingA, RepD (there W) W (slD Api_BindingA.enc l) v ∧ ∀ p ∈ l, p.val.words ∧ p.name.size ≤ Rows.uptoBulk d := by
  obtain ⟨a, len, cap, rfl⟩ := okWide_slice Tryz.underlying29 hval
  obtain ⟨fuel, hf⟩ := h
  obtain ⟨l, c, h1, h2, h3⟩ := slice_rep Api_BindingA.enc (s := 4) Tryz.underlying29 (by kernel_rfl) (by omega) (fun p => by rw [Api_BindingA.enc_eta]; rfl) (fun p y => p.val.words ∧ p.name.size ≤ Rows.uptoBulk y) (fun n cs' y _ hy => bind_row n cs' y hy) hf
  simp only [Value.cells, List.cons.injEq, and_true] at h1
  subst h1
  refine ⟨l, h2, fun p hp => ?_⟩
  rcases h3 with ⟨_, rfl⟩ | ⟨ys, rest, e, hl, hq⟩
  · cases hp
  · obtain ⟨i, hi, rfl⟩ := List.mem_iff_getElem.1 hp
    obtain ⟨q1, q2⟩ := hq i hi (by omega)
    have hb := bulk_at (ys := ys) i (by omega)
    have : Rows.uptoBulk d = Rows.uptoBulkAll ys + Rows.uptoBulkAll rest + 1 := by
      have e : d = .slice ys rest := e
      rw [e, bulk_slice]
    exact ⟨q1, by omega⟩
theorem own : ownKnob Tryz.prog.godebug = none := by kernel_rfl
theorem laidOut : laidOutB Tryz.prog = true := by kernel_rfl
noncomputable def laidWorld (os : Os) : World :=
  { World.holding Tryz.prog os ⟨#[], #[], []⟩ with heap := ((((World.holding Tryz.prog os ⟨#[], #[], []⟩).heap.modify 1 fun | .cells _ t frozen => .cells #[.int .u8 0, .int .u8 1, .int .u8 28, .int .u8 2, .int .u8 29, .int .u8 14, .int .u8 24, .int .u8 3, .int .u8 30, .int .u8 22, .int .u8 20, .int .u8 15, .int .u8 25, .int .u8 17, .int .u8 4, .int .u8 8, .int .u8 31, .int .u8 27, .int .u8 13, .int .u8 23, .int .u8 21, .int .u8 19, .int .u8 16, .int .u8 7, .int .u8 26, .int .u8 12, .int .u8 18, .int .u8 6, .int .u8 11, .int .u8 5, .int .u8 10, .int .u8 9] t frozen | o => o).modify 2 fun | .cells _ t frozen => .cells #[.int .u8 0, .int .u8 1, .int .u8 56, .int .u8 2, .int .u8 57, .int .u8 49, .int .u8 28, .int .u8 3, .int .u8 61, .int .u8 58, .int .u8 42, .int .u8 50, .int .u8 38, .int .u8 29, .int .u8 17, .int .u8 4, .int .u8 62, .int .u8 47, .int .u8 59, .int .u8 36, .int .u8 45, .int .u8 43, .int .u8 51, .int .u8 22, .int .u8 53, .int .u8 39, .int .u8 33, .int .u8 30, .int .u8 24, .int .u8 18, .int .u8 12, .int .u8 5, .int .u8 63, .int .u8 55, .int .u8 48, .int .u8 27, .int .u8 60, .int .u8 41, .int .u8 37, .int .u8 16, .int .u8 46, .int .u8 35, .int .u8 44, .int .u8 21, .int .u8 52, .int .u8 32, .int .u8 23, .int .u8 11, .int .u8 54, .int .u8 26, .int .u8 40, .int .u8 15, .int .u8 34, .int .u8 20, .int .u8 31, .int .u8 10, .int .u8 25, .int .u8 14, .int .u8 19, .int .u8 9, .int .u8 13, .int .u8 8, .int .u8 7, .int .u8 6] t frozen | o => o).modify 0 fun | .cells _ t frozen => .cells #[.int .u64 1, .int .u64 10, .int .u64 100, .int .u64 1000, .int .u64 10000, .int .u64 100000, .int .u64 1000000, .int .u64 10000000, .int .u64 100000000, .int .u64 1000000000, .int .u64 10000000000, .int .u64 100000000000, .int .u64 1000000000000, .int .u64 10000000000000, .int .u64 100000000000000, .int .u64 1000000000000000, .int .u64 10000000000000000, .int .u64 100000000000000000, .int .u64 1000000000000000000, .int .u64 10000000000000000000] t frozen | o => o) }
theorem laid_met (os : Os) : laidMet Tryz.prog Rows.renameMovesUptoRow.laid ((laidWorld os).forCall (fun _ _ => 0) ⟨#[], #[.agg #[.int .i64 0, .string ByteArray.empty, .bool false, .slice none 0 0, .slice none 0 0, .slice none 0 0], .string ByteArray.empty, .string ByteArray.empty, .slice none 0 0], []⟩).memory :=
  laidMet_of_run' 8 (by kernel_rfl) (by kernel_rfl)
theorem reads (os : Os) {H : Type} (enc : TypeId × Value → H) : ∃ places, DataW.whole enc Tryz.prog ((laidWorld os).forCall (fun _ _ => 0) ⟨#[], #[.agg #[.int .i64 0, .string ByteArray.empty, .bool false, .slice none 0 0, .slice none 0 0, .slice none 0 0], .string ByteArray.empty, .string ByteArray.empty, .slice none 0 0], []⟩).memory Tryz.f3.params.toList Rows.renameMovesSpec.vars false (#[.agg #[.int .i64 0, .string ByteArray.empty, .bool false, .slice none 0 0, .slice none 0 0, .slice none 0 0], .string ByteArray.empty, .string ByteArray.empty, .slice none 0 0] : Array Value).toList 8 = some ([.agg [.lit (.int .i64 0), .lit (.string []), .agg [.lit (.bool false), .nil, .nil], .nil], .lit (.string []), .lit (.string []), .nil], [], places) :=
  ⟨[], by kernel_rfl⟩
theorem lifted (os : Os) (started : os.Started) (H : Type) (enc : TypeId × Value → H) (F : Stop.Interp) :
    ReturnsInHanded {} Tryz.checked os 3 .any ((Rows.OpenSpec.upto Rows.renameMovesSpec).preRow enc Tryz.prog Tryz.f3 Rows.renameMovesUptoRow.domain false Rows.renameMovesUptoRow.laid) (((Rows.OpenSpec.upto Rows.renameMovesSpec).at F).post enc Tryz.prog Tryz.f3 false true false false) := by
  obtain ⟨places, hx⟩ := reads os enc
  refine returnsInHanded_of_row (C := Tryz.checked) (s := Rows.OpenSpec.upto Rows.renameMovesSpec) own started (by kernel_rfl) Tryz.func3
    (witness_row_at (enc := enc) (C := Tryz.checked) false (laidWorld os) #[.agg #[.int .i64 0, .string ByteArray.empty, .bool false, .slice none 0 0, .slice none 0 0, .slice none 0 0], .string ByteArray.empty, .string ByteArray.empty, .slice none 0 0] rfl (by kernel_rfl) (by kernel_rfl) (by kernel_rfl)
      (OpenSpec.preRow_of_cond 8 hx (by kernel_rfl) (fun k hk => by cases hk; kernel_rfl) (by kernel_rfl) (laid_met os))) ?_
  intro W base args ds gs before hval0 hW _ hcond _ hlaid _ _
  have hk := hcond _ rfl
  have hval : ∀ (j : Nat) t v, Tryz.f3.params[j]? = some t → args[j]? = some v → Value.okWide Tryz.prog W .any base t v := hval0
  have hW' := hW
  obtain ⟨p, q, hA0, hV, rfl, hfz, hnd⟩ := hW
  have hA : DataW.TrodAll enc Tryz.prog W 0 (fun _ => true) true Tryz.f3.params.toList args.toList ds p := hA0
  rw [Tryz.params3] at hA hval
  obtain ⟨v0, vs0, d0, ds0, p0, q0, hargs, rfl, rfl, h0, r0⟩ := trodAll_cons hA
  obtain ⟨v1, vs1, d1, ds1, p1, q1, rfl, rfl, rfl, h1, r1⟩ := trodAll_cons r0
  obtain ⟨v2, vs2, d2, ds2, p2, q2, rfl, rfl, rfl, h2, r2⟩ := trodAll_cons r1
  obtain ⟨v3, vs3, d3, ds3, p3, q3, rfl, rfl, rfl, h3, r3⟩ := trodAll_cons r2
  obtain ⟨rfl, rfl, rfl⟩ := trodAll_nil r3
  obtain rfl : args = #[v0, v1, v2, v3] := by cases args; simp_all
  obtain ⟨rfl, rfl⟩ := trodVars_none hV
  have lt0 : ∀ x ∈ p0, x.block < W.heap.size := by obtain ⟨m, hm⟩ := h0; exact DataW.trod_lt m _ _ _ hm
  have lt1 : ∀ x ∈ p1, x.block < W.heap.size := by obtain ⟨m, hm⟩ := h1; exact DataW.trod_lt m _ _ _ hm
  have lt2 : ∀ x ∈ p2, x.block < W.heap.size := by obtain ⟨m, hm⟩ := h2; exact DataW.trod_lt m _ _ _ hm
  have lt3 : ∀ x ∈ p3, x.block < W.heap.size := by obtain ⟨m, hm⟩ := h3; exact DataW.trod_lt m _ _ _ hm
  obtain ⟨l, rl, ql⟩ := state_rep (hval 3 29 v3 rfl rfl) h3
  obtain ⟨n0, rn0, w0, b0⟩ := node_rep (hval 0 27 v0 rfl rfl) h0
  have hs1 := open_string (P := Tryz.prog) Tryz.underlying9 (hval 1 9 v1 rfl rfl) h1
  have hs2 := open_string (P := Tryz.prog) Tryz.underlying9 (hval 2 9 v2 rfl rfl) h2
  obtain ⟨s1, rfl, ed1, ep1, m1⟩ := hs1
  obtain ⟨s2, rfl, ed2, ep2, m2⟩ := hs2
  have hbulk := of_decide_eq_true hk
  simp only [List.append_nil, Rows.uptoBulkAll] at hbulk
  obtain ⟨K, hlaw⟩ := moves_law (n := n0) (x := s1) (y := s2) (s := l) (by unfold big; omega) w0 fun b hb => ⟨(ql b hb).1, by have := (ql b hb).2; omega⟩
  have hkn : Known (there W) W := glb_known (fun b hb => hb) (tab_of_laid (k := .u64) (zs := Lib.pow10Tab) (g := 0) (t := 179) (e := 159) (c := 20) hlaid (by kernel_rfl) (by
    show _ ∈ [("math/bits.deBruijn32tab", Rows.laid_math_bits_deBruijn32tab), ("math/bits.deBruijn64tab", Rows.laid_math_bits_deBruijn64tab), ("internal/strconv.uint64pow10", Rows.laid_internal_strconv_uint64pow10)]
    rw [show (Rows.laid_internal_strconv_uint64pow10 : DataW Unit) = Lib.tabData .u64 Lib.pow10Tab from by kernel_rfl]
    exact List.mem_cons_of_mem _ (List.mem_cons_of_mem _ (List.mem_cons_self ..))) (by kernel_rfl) (by kernel_rfl) (by kernel_rfl) (by kernel_rfl) (by kernel_rfl) (by kernel_rfl))
  have hc := (law18_RenameMoves_ok hlaw).2 (there W) W #[v0, .string s1, .string s2, v3] ⟨fun b hb => hb, hkn⟩ ⟨rfl, fun i hi => by
    match i, hi with
    | 0, _ => exact rn0
    | 1, _ => exact .d (.val _ (by have := m1; rw [maxLen_eq] at this; simpa [okVal] using this))
    | 2, _ => exact .d (.val _ (by have := m2; rw [maxLen_eq] at this; simpa [okVal] using this))
    | 3, _ => exact .d rl⟩
  clear hA0 hval0
  refine hc.mono fun e W' ⟨c, I', he, hp, hv⟩ => ?_
  have hcv : c = .bool true := hv.val rfl
  subst he hcv
  have bel : Below W.heap.size W W' := hp.below
  exact ⟨_, rfl, _, _, _, [], _, [], hW', trodAll_mk1 (shut_bool Tryz.underlying4 _), (trodAll_cons_mk (Below.trod laidOut (by kernel_rfl) (of_decide_eq_true (by kernel_rfl)) h0 bel lt0) (trodAll_cons_mk (Below.trod laidOut (by kernel_rfl) (of_decide_eq_true (by kernel_rfl)) h1 bel lt1) (trodAll_cons_mk (Below.trod laidOut (by kernel_rfl) (of_decide_eq_true (by kernel_rfl)) h2 bel lt2) (trodAll_cons_mk (Below.trod laidOut (by kernel_rfl) (of_decide_eq_true (by kernel_rfl)) h3 bel lt3) trodAll_mk0)))), rfl, bel.frame _, fun h => by cases h⟩
theorem over : Rows.renameMovesUptoRow.holds Tryz.pinned (Rows.OpenSpec.upto Rows.renameMovesSpec) :=
  OpenClaim.holds_of_cond 3 Tryz.f3 rfl rfl rfl rfl rfl rfl rfl ⟨rfl, rfl, rfl, rfl, rfl⟩ rfl rfl rfl rfl rfl (by kernel_rfl) Tryz.func3 (by kernel_rfl)
    (of_decide_eq_true (by kernel_rfl)) (by unfold Func.isWrapper; first | (rw [if_pos (by decide +kernel)]; kernel_rfl) | (rw [if_neg (by decide +kernel)]; exact ⟨rfl, rfl⟩))
    (fun os started H enc _ F => by rw [OpenClaim.pre_eq_preRow]; exact lifted os started H enc F)
theorem plain (f : FuncId) (fn : Func) (hf : Tryz.pinned.checked.prog.funcNamed "isochrone/isochronelaw18.RenameMoves" = some f) (hfn : Tryz.pinned.checked.prog.funcs[f]? = some fn) :
    false = Tryz.pinned.checked.prog.looks [] ∧ ∀ (j : Nat) t, fn.params[j]? = some t → Tryz.pinned.checked.prog.wantsStandIn t = false := by
  obtain rfl : f = 3 := Option.some.inj ((show Tryz.prog.funcNamed "isochrone/isochronelaw18.RenameMoves" = some 3 by kernel_rfl).symm.trans hf) |>.symm
  obtain rfl : fn = Tryz.f3 := (Option.some.inj (Tryz.func3.symm.trans hfn)).symm
  refine ⟨by kernel_rfl, fun j t ht => ?_⟩
  rw [Tryz.params3] at ht
  have k0 : Tryz.prog.wantsStandIn 27 = false := by kernel_rfl
  have k1 : Tryz.prog.wantsStandIn 9 = false := by kernel_rfl
  have k2 : Tryz.prog.wantsStandIn 9 = false := by kernel_rfl
  have k3 : Tryz.prog.wantsStandIn 29 = false := by kernel_rfl
  match j, ht with
  | 0, ht => obtain rfl := Option.some.inj ht; exact k0
  | 1, ht => obtain rfl := Option.some.inj ht; exact k1
  | 2, ht => obtain rfl := Option.some.inj ht; exact k2
  | 3, ht => obtain rfl := Option.some.inj ht; exact k3
theorem proved : Rows.RenameMovesUptoCardSaid :=
  Claim7.holds_tied_plain_at .later [] _ _ _ _ over (fun _ h => by cases h) (by kernel_rfl) (fun _ h => by cases h) renameMovesUpto_row_tie rfl ⟨rfl, rfl⟩ (by kernel_rfl) rfl plain (by kernel_rfl)
#print axioms proved
end Go.Proofs.YtphgabghcedphaaGreatDoor.renameMoves
