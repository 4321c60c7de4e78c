/- Part of the proof of a law: contracts of the functions that the law reaches, out of the abstract layer (the texts YtcgphoghmgeecaaIso..). No condition. -/
import Derived.Test.YtcgphoghmgeecaaQj
namespace Go.Proofs.Ytcgphoghmgeecaa
open Go Go.Iso Go.Proofs
set_option linter.unusedSimpArgs false
set_option linter.unusedVariables false
set_option maxRecDepth 100000
set_option maxHeartbeats 1000000


/-! The plain law: sets as their members. -/
noncomputable def inS (s : NamesA) (v : ByteArray) : Bool := pB (v ∈ s.list) != s.all
theorem valid_of {l : List ByteArray} (h : SP l) (hv : ∀ x ∈ l, VarS x) : ValidL l := fun j x hx => ⟨hv x (List.mem_of_getElem? hx), fun i y hi hy => by
  obtain ⟨h1, e1⟩ := List.getElem?_eq_some_iff.1 hx
  obtain ⟨h2, e2⟩ := List.getElem?_eq_some_iff.1 hy
  have := List.pairwise_iff_getElem.1 h i j h2 h1 (by omega)
  rw [e1, e2] at this; exact this⟩
theorem var_of {l : List ByteArray} (h : ValidL l) : ∀ x ∈ l, VarS x := fun x hx => by
  obtain ⟨i, hi⟩ := List.getElem?_of_mem hx
  exact (h i x hi).1
theorem sp_v {l : List ByteArray} (h : ValidL l) : SP l := sp_of (sorted_of h)
theorem union_all {a b : NamesA} : (unionS a b).all = (a.all || b.all) := by
  unfold unionS; cases a.all <;> cases b.all <;> rfl
theorem union_valid {a b : NamesA} (ha : ValidL a.list) (hb : ValidL b.list) : ValidL (unionS a b).list := by
  have key : ∀ l bo r, ValidL (mixS l bo r a.list b.list) := fun l bo r => valid_of (sp_mix (sp_v ha) (sp_v hb)) fun x hx => (sub_mix (sp_v ha) (sp_v hb) hx).elim (var_of ha x) (var_of hb x)
  unfold unionS; split <;> split <;> exact key _ _ _
theorem union_in {a b : NamesA} (ha : ValidL a.list) (hb : ValidL b.list) (v : ByteArray) : inS (unionS a b) v = (inS a v || inS b v) := by
  have key : ∀ l bo r, pB (v ∈ mixS l bo r a.list b.list) = ((pB (v ∈ a.list) && !pB (v ∈ b.list) && l) || (pB (v ∈ a.list) && pB (v ∈ b.list) && bo) || (!pB (v ∈ a.list) && pB (v ∈ b.list) && r)) := fun l bo r => by
    rw [Bool.eq_iff_iff, pB_true, mem_mix (sp_v ha) (sp_v hb)]
    by_cases h1 : v ∈ a.list <;> by_cases h2 : v ∈ b.list <;> simp [h1, h2, pB_true.2 h1, pB_true.2 h2, pB_false.2, pB]
  unfold inS unionS
  cases h1 : a.all <;> cases h2 : b.all <;> simp only [Bool.false_eq_true, if_true, if_false, key] <;> cases pB (v ∈ a.list) <;> cases pB (v ∈ b.list) <;> rfl
theorem not_in {s : NamesA} (v : ByteArray) : inS (notS s) v = !inS s v := by
  unfold inS notS; cases pB (v ∈ s.list) <;> cases s.all <;> rfl
theorem meet_all {a b : NamesA} : (meetS a b).all = (a.all && b.all) := by
  show (!(unionS (notS a) (notS b)).all) = _
  rw [union_all]; simp only [notS]; cases a.all <;> cases b.all <;> rfl
theorem meet_valid {a b : NamesA} (ha : ValidL a.list) (hb : ValidL b.list) : ValidL (meetS a b).list := union_valid (a := notS a) (b := notS b) ha hb
theorem meet_in {a b : NamesA} (ha : ValidL a.list) (hb : ValidL b.list) (v : ByteArray) : inS (meetS a b) v = (inS a v && inS b v) := by
  rw [meetS, not_in, union_in (a := notS a) (b := notS b) ha hb, not_in, not_in]
  cases inS a v <;> cases inS b v <;> rfl
theorem minus_all {a b : NamesA} : (minusS a b).all = (a.all && !b.all) := by rw [minusS, meet_all]; rfl
theorem minus_valid {a b : NamesA} (ha : ValidL a.list) (hb : ValidL b.list) : ValidL (minusS a b).list := meet_valid (b := notS b) ha hb
theorem minus_in {a b : NamesA} (ha : ValidL a.list) (hb : ValidL b.list) (v : ByteArray) : inS (minusS a b) v = (inS a v && !inS b v) := by
  rw [minusS, meet_in (b := notS b) ha hb, not_in]
theorem ext_in {a b : NamesA} (ha : ValidL a.list) (hb : ValidL b.list) (h : a.all = b.all) (hv : ∀ v, inS a v = inS b v) : a = b := by
  obtain ⟨al, a⟩ := a
  obtain ⟨bl, b⟩ := b
  simp only at h ha hb
  subst h
  congr 1
  refine ext_sp (sp_v ha) (sp_v hb) fun x => ?_
  have := hv x
  unfold inS at this
  simp only at this
  have e : pB (x ∈ a) = pB (x ∈ b) := by revert this; cases pB (x ∈ a) <;> cases pB (x ∈ b) <;> cases al <;> simp
  exact ⟨fun h => pB_true.1 (e ▸ pB_true.2 h), fun h => pB_true.1 (e.symm ▸ pB_true.2 h)⟩
theorem empty_in {s : NamesA} (h : s.all = false) (hv : ∀ v, inS s v = false) : EmptyS s := by
  refine ⟨h, ?_⟩
  have : s.list = [] := List.eq_nil_iff_forall_not_mem.2 fun x hx => by
    have := hv x
    unfold inS at this
    rw [h, pB_true.2 hx] at this
    cases this
  rw [this]; rfl

theorem cu {a b : NamesA} (ha : ValidL a.list) (hb : ValidL b.list) (hl : a.list.length + b.list.length ≤ 900000) : Cn Try.prog 12 [aggV a.enc, aggV b.enc] (.tup [aggV (unionS a b).enc, intV 0]) := by
  have := fn12 a b hl (by have := union_len (a := a) (b := b); omega)
  rwa [resS_ok ⟨ha, hb⟩] at this
theorem cm {a b : NamesA} (ha : ValidL a.list) (hb : ValidL b.list) (hl : a.list.length + b.list.length ≤ 900000) : Cn Try.prog 15 [aggV a.enc, aggV b.enc] (.tup [aggV (meetS a b).enc, intV 0]) := by
  have := fn15 a b hl (by have := meet_len (a := a) (b := b); omega)
  rwa [resS_ok ⟨ha, hb⟩] at this
theorem cd {a b : NamesA} (ha : ValidL a.list) (hb : ValidL b.list) (hl : a.list.length + b.list.length ≤ 900000) : Cn Try.prog 17 [aggV a.enc, aggV b.enc] (.tup [aggV (minusS a b).enc, intV 0]) := by
  have := fn17 a b hl (by have := minus_len (a := a) (b := b); omega)
  rwa [resS_ok ⟨ha, hb⟩] at this
theorem ch {a : NamesA} (v : ByteArray) (ha : ValidL a.list) (hl : a.list.length ≤ 1000000) : Cn Try.prog 10 [aggV a.enc, .d (.val (.string v))] (boolV (inS a v)) := fn10 a v (sorted_of ha) hl

set_option maxHeartbeats 20000000 in
theorem fn4_main (a b c : NamesA) (v : ByteArray) (ha : a.list.length ≤ 60) (hb : b.list.length ≤ 60) (hc : c.list.length ≤ 60) (va : ValidL a.list) (vb : ValidL b.list) (vc' : ValidL c.list) : Cn Try.prog 4 [aggV a.enc, aggV b.enc, aggV c.enc, .d (.val (.string v))] (boolV true) := by
  have l1 : decide ((60 : Int) < (a.list.length : Int)) = false := by simp; omega
  have l2 : decide ((60 : Int) < (b.list.length : Int)) = false := by simp; omega
  have l3 : decide ((60 : Int) < (c.list.length : Int)) = false := by simp; omega
  have lu := union_len (a := b) (b := c)
  have lx := meet_len (a := a) (b := b)
  have ly := meet_len (a := a) (b := c)
  have ll := meet_len (a := a) (b := unionS b c)
  have lp := minus_len (a := a) (b := b)
  have ld := minus_len (a := a) (b := unionS b c)
  have vu := union_valid vb vc'
  have vx := meet_valid va vb
  have vy := meet_valid va vc'
  have vl := meet_valid va vu
  have vp := minus_valid va vb
  have vd := minus_valid va vu
  have ebc : ∀ w, inS (unionS b c) w = (inS b w || inS c w) := union_in vb vc'
  have e1 : unionS (meetS a b) (meetS a c) = meetS a (unionS b c) := ext_in (union_valid vx vy) vl (by rw [union_all, meet_all, meet_all, meet_all, union_all]; cases a.all <;> cases b.all <;> cases c.all <;> rfl) fun w => by
    rw [union_in vx vy, meet_in va vb, meet_in va vc', meet_in va vu, ebc]; cases inS a w <;> cases inS b w <;> cases inS c w <;> rfl
  have e2 : unionS a (meetS a b) = a := ext_in (union_valid va vx) va (by rw [union_all, meet_all]; cases a.all <;> cases b.all <;> rfl) fun w => by
    rw [union_in va vx, meet_in va vb]; cases inS a w <;> cases inS b w <;> rfl
  have e3 : minusS (minusS a b) c = minusS a (unionS b c) := ext_in (minus_valid vp vc') vd (by rw [minus_all, minus_all, minus_all, union_all]; cases a.all <;> cases b.all <;> cases c.all <;> rfl) fun w => by
    rw [minus_in vp vc', minus_in va vb, minus_in va vu, ebc]; cases inS a w <;> cases inS b w <;> cases inS c w <;> rfl
  have e4 : EmptyS (meetS (minusS a (unionS b c)) (unionS b c)) := empty_in (by rw [meet_all, minus_all]; cases a.all <;> cases (unionS b c).all <;> rfl) fun w => by
    rw [meet_in vd vu, minus_in va vu]; cases inS a w <;> cases inS (unionS b c) w <;> rfl
  have c1 := cu vb vc' (by omega)
  have c2 := cm va vu (by omega)
  have c3 := cm va vb (by omega)
  have c4 := cm va vc' (by omega)
  have c5 := cu vx vy (by omega)
  have c6 := cu va vx (by omega)
  have c7 := cd va vu (by omega)
  have c8 := cd va vb (by omega)
  have c9 := cd vp vc' (by omega)
  have c10 := fn19 (minusS a (unionS b c)) (unionS b c) (by omega)
  rw [disS_ok ⟨vd, vu⟩, pB_true.2 e4] at c10
  rw [e1] at c5
  rw [e2] at c6
  rw [e3] at c9
  have s1 := fn14 (meetS a (unionS b c)) (meetS a (unionS b c))
  have s2 := fn14 a a
  have s3 := fn14 (minusS a (unionS b c)) (minusS a (unionS b c))
  simp only [pB_eq] at s1 s2 s3
  have h1 := ch v vl (by omega)
  have h2 := ch v va (by omega)
  have h3 := ch v vb (by omega)
  have h4 := ch v vc' (by omega)
  have h5 := ch v vd (by omega)
  have h6 := ch v vu (by omega)
  rw [meet_in va vu, ebc] at h1
  rw [minus_in va vu, ebc] at h5
  rw [ebc] at h6
  have p1 := pB_true.2 va
  have p2 := pB_true.2 vb
  have p3 := pB_true.2 vc'
  generalize hu : unionS b c = u at *
  generalize hx : meetS a b = x at *
  generalize hy : meetS a c = y at *
  generalize hl : meetS a u = l at *
  generalize hp : minusS a b = p at *
  generalize hd : minusS a u = d at *
  refine Cn.of mixed Try.func4 rfl Try.call4 Try.ntmps4 Try.results4 (by simp) (by kernel_rfl) trivial fun hfit => ?_
  simp only [go_sem, Nat.reduceEqDiff, Nat.reduceAdd, Nat.reduceSub, Nat.reduceMul, Nat.reduceLeDiff, Nat.reduceLT, Nat.reduceBEq, reduceIte, Int.reduceBEq, Int.reduceBNe, Int.reduceLT, Int.reduceLE, Int.reduceGT, Int.reduceGE, decide_true, decide_false, Int.reduceAdd, Int.reduceSub, Int.reduceNeg, Int.cast_ofNat_Int, wrapC, Int.reduceToNat, Int.zero_le_ofNat, bne_self_eq_false, ea]
  refine callK_pure fn7 (by simp only [go_sem, Nat.reduceEqDiff, Nat.reduceAdd, Nat.reduceSub, Nat.reduceMul, Nat.reduceLeDiff, Nat.reduceLT, Nat.reduceBEq, reduceIte]) ?_
  simp only [go_sem, Nat.reduceEqDiff, Nat.reduceAdd, Nat.reduceSub, Nat.reduceMul, Nat.reduceLeDiff, Nat.reduceLT, Nat.reduceBEq, reduceIte, Int.reduceBEq, Int.reduceBNe, Int.reduceLT, Int.reduceLE, Int.reduceGT, Int.reduceGE, decide_true, decide_false, Int.reduceAdd, Int.reduceSub, Int.reduceNeg, Int.cast_ofNat_Int, wrapC, Int.reduceToNat, Int.zero_le_ofNat, bne_self_eq_false, ea, l1, l2, l3]
  refine callK_pure (fn9 a) (by simp only [go_sem, Nat.reduceEqDiff, Nat.reduceAdd, Nat.reduceSub, Nat.reduceMul, Nat.reduceLeDiff, Nat.reduceLT, Nat.reduceBEq, reduceIte, ea]) ?_
  simp only [go_sem, Nat.reduceEqDiff, Nat.reduceAdd, Nat.reduceSub, Nat.reduceMul, Nat.reduceLeDiff, Nat.reduceLT, Nat.reduceBEq, reduceIte, Int.reduceBEq, Int.reduceBNe, Int.reduceLT, Int.reduceLE, Int.reduceGT, Int.reduceGE, decide_true, decide_false, Int.reduceAdd, Int.reduceSub, Int.reduceNeg, Int.cast_ofNat_Int, wrapC, Int.reduceToNat, Int.zero_le_ofNat, bne_self_eq_false, ea, p1, l1, l2, l3]
  refine callK_pure (fn9 b) (by simp only [go_sem, Nat.reduceEqDiff, Nat.reduceAdd, Nat.reduceSub, Nat.reduceMul, Nat.reduceLeDiff, Nat.reduceLT, Nat.reduceBEq, reduceIte, ea]) ?_
  simp only [go_sem, Nat.reduceEqDiff, Nat.reduceAdd, Nat.reduceSub, Nat.reduceMul, Nat.reduceLeDiff, Nat.reduceLT, Nat.reduceBEq, reduceIte, Int.reduceBEq, Int.reduceBNe, Int.reduceLT, Int.reduceLE, Int.reduceGT, Int.reduceGE, decide_true, decide_false, Int.reduceAdd, Int.reduceSub, Int.reduceNeg, Int.cast_ofNat_Int, wrapC, Int.reduceToNat, Int.zero_le_ofNat, bne_self_eq_false, ea, p1, p2, l1, l2, l3]
  refine callK_pure (fn9 c) (by simp only [go_sem, Nat.reduceEqDiff, Nat.reduceAdd, Nat.reduceSub, Nat.reduceMul, Nat.reduceLeDiff, Nat.reduceLT, Nat.reduceBEq, reduceIte, ea]) ?_
  simp only [go_sem, Nat.reduceEqDiff, Nat.reduceAdd, Nat.reduceSub, Nat.reduceMul, Nat.reduceLeDiff, Nat.reduceLT, Nat.reduceBEq, reduceIte, Int.reduceBEq, Int.reduceBNe, Int.reduceLT, Int.reduceLE, Int.reduceGT, Int.reduceGE, decide_true, decide_false, Int.reduceAdd, Int.reduceSub, Int.reduceNeg, Int.cast_ofNat_Int, wrapC, Int.reduceToNat, Int.zero_le_ofNat, bne_self_eq_false, ea, p1, p2, p3, l1, l2, l3]
  refine callK_pure c1 (by simp only [go_sem, Nat.reduceEqDiff, Nat.reduceAdd, Nat.reduceSub, Nat.reduceMul, Nat.reduceLeDiff, Nat.reduceLT, Nat.reduceBEq, reduceIte, ea]) ?_
  simp only [go_sem, Nat.reduceEqDiff, Nat.reduceAdd, Nat.reduceSub, Nat.reduceMul, Nat.reduceLeDiff, Nat.reduceLT, Nat.reduceBEq, reduceIte, Int.reduceBEq, Int.reduceBNe, Int.reduceLT, Int.reduceLE, Int.reduceGT, Int.reduceGE, decide_true, decide_false, Int.reduceAdd, Int.reduceSub, Int.reduceNeg, Int.cast_ofNat_Int, wrapC, Int.reduceToNat, Int.zero_le_ofNat, bne_self_eq_false, ea]
  refine callK_pure c2 (by simp only [go_sem, Nat.reduceEqDiff, Nat.reduceAdd, Nat.reduceSub, Nat.reduceMul, Nat.reduceLeDiff, Nat.reduceLT, Nat.reduceBEq, reduceIte, ea]) ?_
  simp only [go_sem, Nat.reduceEqDiff, Nat.reduceAdd, Nat.reduceSub, Nat.reduceMul, Nat.reduceLeDiff, Nat.reduceLT, Nat.reduceBEq, reduceIte, Int.reduceBEq, Int.reduceBNe, Int.reduceLT, Int.reduceLE, Int.reduceGT, Int.reduceGE, decide_true, decide_false, Int.reduceAdd, Int.reduceSub, Int.reduceNeg, Int.cast_ofNat_Int, wrapC, Int.reduceToNat, Int.zero_le_ofNat, bne_self_eq_false, ea]
  refine callK_pure c3 (by simp only [go_sem, Nat.reduceEqDiff, Nat.reduceAdd, Nat.reduceSub, Nat.reduceMul, Nat.reduceLeDiff, Nat.reduceLT, Nat.reduceBEq, reduceIte, ea]) ?_
  simp only [go_sem, Nat.reduceEqDiff, Nat.reduceAdd, Nat.reduceSub, Nat.reduceMul, Nat.reduceLeDiff, Nat.reduceLT, Nat.reduceBEq, reduceIte, Int.reduceBEq, Int.reduceBNe, Int.reduceLT, Int.reduceLE, Int.reduceGT, Int.reduceGE, decide_true, decide_false, Int.reduceAdd, Int.reduceSub, Int.reduceNeg, Int.cast_ofNat_Int, wrapC, Int.reduceToNat, Int.zero_le_ofNat, bne_self_eq_false, ea]
  refine callK_pure c4 (by simp only [go_sem, Nat.reduceEqDiff, Nat.reduceAdd, Nat.reduceSub, Nat.reduceMul, Nat.reduceLeDiff, Nat.reduceLT, Nat.reduceBEq, reduceIte, ea]) ?_
  simp only [go_sem, Nat.reduceEqDiff, Nat.reduceAdd, Nat.reduceSub, Nat.reduceMul, Nat.reduceLeDiff, Nat.reduceLT, Nat.reduceBEq, reduceIte, Int.reduceBEq, Int.reduceBNe, Int.reduceLT, Int.reduceLE, Int.reduceGT, Int.reduceGE, decide_true, decide_false, Int.reduceAdd, Int.reduceSub, Int.reduceNeg, Int.cast_ofNat_Int, wrapC, Int.reduceToNat, Int.zero_le_ofNat, bne_self_eq_false, ea]
  refine callK_pure c5 (by simp only [go_sem, Nat.reduceEqDiff, Nat.reduceAdd, Nat.reduceSub, Nat.reduceMul, Nat.reduceLeDiff, Nat.reduceLT, Nat.reduceBEq, reduceIte, ea]) ?_
  simp only [go_sem, Nat.reduceEqDiff, Nat.reduceAdd, Nat.reduceSub, Nat.reduceMul, Nat.reduceLeDiff, Nat.reduceLT, Nat.reduceBEq, reduceIte, Int.reduceBEq, Int.reduceBNe, Int.reduceLT, Int.reduceLE, Int.reduceGT, Int.reduceGE, decide_true, decide_false, Int.reduceAdd, Int.reduceSub, Int.reduceNeg, Int.cast_ofNat_Int, wrapC, Int.reduceToNat, Int.zero_le_ofNat, bne_self_eq_false, ea]
  refine callK_pure s1 (by simp only [go_sem, Nat.reduceEqDiff, Nat.reduceAdd, Nat.reduceSub, Nat.reduceMul, Nat.reduceLeDiff, Nat.reduceLT, Nat.reduceBEq, reduceIte, ea]) ?_
  simp only [go_sem, Nat.reduceEqDiff, Nat.reduceAdd, Nat.reduceSub, Nat.reduceMul, Nat.reduceLeDiff, Nat.reduceLT, Nat.reduceBEq, reduceIte, Int.reduceBEq, Int.reduceBNe, Int.reduceLT, Int.reduceLE, Int.reduceGT, Int.reduceGE, decide_true, decide_false, Int.reduceAdd, Int.reduceSub, Int.reduceNeg, Int.cast_ofNat_Int, wrapC, Int.reduceToNat, Int.zero_le_ofNat, bne_self_eq_false, ea]
  refine callK_pure c6 (by simp only [go_sem, Nat.reduceEqDiff, Nat.reduceAdd, Nat.reduceSub, Nat.reduceMul, Nat.reduceLeDiff, Nat.reduceLT, Nat.reduceBEq, reduceIte, ea]) ?_
  simp only [go_sem, Nat.reduceEqDiff, Nat.reduceAdd, Nat.reduceSub, Nat.reduceMul, Nat.reduceLeDiff, Nat.reduceLT, Nat.reduceBEq, reduceIte, Int.reduceBEq, Int.reduceBNe, Int.reduceLT, Int.reduceLE, Int.reduceGT, Int.reduceGE, decide_true, decide_false, Int.reduceAdd, Int.reduceSub, Int.reduceNeg, Int.cast_ofNat_Int, wrapC, Int.reduceToNat, Int.zero_le_ofNat, bne_self_eq_false, ea]
  refine callK_pure c7 (by simp only [go_sem, Nat.reduceEqDiff, Nat.reduceAdd, Nat.reduceSub, Nat.reduceMul, Nat.reduceLeDiff, Nat.reduceLT, Nat.reduceBEq, reduceIte, ea]) ?_
  simp only [go_sem, Nat.reduceEqDiff, Nat.reduceAdd, Nat.reduceSub, Nat.reduceMul, Nat.reduceLeDiff, Nat.reduceLT, Nat.reduceBEq, reduceIte, Int.reduceBEq, Int.reduceBNe, Int.reduceLT, Int.reduceLE, Int.reduceGT, Int.reduceGE, decide_true, decide_false, Int.reduceAdd, Int.reduceSub, Int.reduceNeg, Int.cast_ofNat_Int, wrapC, Int.reduceToNat, Int.zero_le_ofNat, bne_self_eq_false, ea]
  refine callK_pure c8 (by simp only [go_sem, Nat.reduceEqDiff, Nat.reduceAdd, Nat.reduceSub, Nat.reduceMul, Nat.reduceLeDiff, Nat.reduceLT, Nat.reduceBEq, reduceIte, ea]) ?_
  simp only [go_sem, Nat.reduceEqDiff, Nat.reduceAdd, Nat.reduceSub, Nat.reduceMul, Nat.reduceLeDiff, Nat.reduceLT, Nat.reduceBEq, reduceIte, Int.reduceBEq, Int.reduceBNe, Int.reduceLT, Int.reduceLE, Int.reduceGT, Int.reduceGE, decide_true, decide_false, Int.reduceAdd, Int.reduceSub, Int.reduceNeg, Int.cast_ofNat_Int, wrapC, Int.reduceToNat, Int.zero_le_ofNat, bne_self_eq_false, ea]
  refine callK_pure c9 (by simp only [go_sem, Nat.reduceEqDiff, Nat.reduceAdd, Nat.reduceSub, Nat.reduceMul, Nat.reduceLeDiff, Nat.reduceLT, Nat.reduceBEq, reduceIte, ea]) ?_
  simp only [go_sem, Nat.reduceEqDiff, Nat.reduceAdd, Nat.reduceSub, Nat.reduceMul, Nat.reduceLeDiff, Nat.reduceLT, Nat.reduceBEq, reduceIte, Int.reduceBEq, Int.reduceBNe, Int.reduceLT, Int.reduceLE, Int.reduceGT, Int.reduceGE, decide_true, decide_false, Int.reduceAdd, Int.reduceSub, Int.reduceNeg, Int.cast_ofNat_Int, wrapC, Int.reduceToNat, Int.zero_le_ofNat, bne_self_eq_false, ea]
  refine callK_pure c10 (by simp only [go_sem, Nat.reduceEqDiff, Nat.reduceAdd, Nat.reduceSub, Nat.reduceMul, Nat.reduceLeDiff, Nat.reduceLT, Nat.reduceBEq, reduceIte, ea]) ?_
  simp only [go_sem, Nat.reduceEqDiff, Nat.reduceAdd, Nat.reduceSub, Nat.reduceMul, Nat.reduceLeDiff, Nat.reduceLT, Nat.reduceBEq, reduceIte, Int.reduceBEq, Int.reduceBNe, Int.reduceLT, Int.reduceLE, Int.reduceGT, Int.reduceGE, decide_true, decide_false, Int.reduceAdd, Int.reduceSub, Int.reduceNeg, Int.cast_ofNat_Int, wrapC, Int.reduceToNat, Int.zero_le_ofNat, bne_self_eq_false, ea]
  refine callK_pure s2 (by simp only [go_sem, Nat.reduceEqDiff, Nat.reduceAdd, Nat.reduceSub, Nat.reduceMul, Nat.reduceLeDiff, Nat.reduceLT, Nat.reduceBEq, reduceIte, ea]) ?_
  simp only [go_sem, Nat.reduceEqDiff, Nat.reduceAdd, Nat.reduceSub, Nat.reduceMul, Nat.reduceLeDiff, Nat.reduceLT, Nat.reduceBEq, reduceIte, Int.reduceBEq, Int.reduceBNe, Int.reduceLT, Int.reduceLE, Int.reduceGT, Int.reduceGE, decide_true, decide_false, Int.reduceAdd, Int.reduceSub, Int.reduceNeg, Int.cast_ofNat_Int, wrapC, Int.reduceToNat, Int.zero_le_ofNat, bne_self_eq_false, ea]
  refine callK_pure s3 (by simp only [go_sem, Nat.reduceEqDiff, Nat.reduceAdd, Nat.reduceSub, Nat.reduceMul, Nat.reduceLeDiff, Nat.reduceLT, Nat.reduceBEq, reduceIte, ea]) ?_
  simp only [go_sem, Nat.reduceEqDiff, Nat.reduceAdd, Nat.reduceSub, Nat.reduceMul, Nat.reduceLeDiff, Nat.reduceLT, Nat.reduceBEq, reduceIte, Int.reduceBEq, Int.reduceBNe, Int.reduceLT, Int.reduceLE, Int.reduceGT, Int.reduceGE, decide_true, decide_false, Int.reduceAdd, Int.reduceSub, Int.reduceNeg, Int.cast_ofNat_Int, wrapC, Int.reduceToNat, Int.zero_le_ofNat, bne_self_eq_false, ea]
  cases hA : inS a v <;> cases hB : inS b v <;> cases hC : inS c v <;> simp only [hA, hB, hC, Bool.true_and, Bool.false_and, Bool.or_true, Bool.or_false, Bool.true_or, Bool.false_or, Bool.not_true, Bool.not_false, Bool.and_true, Bool.and_false, Bool.and_self, Bool.or_self] at h1 h2 h3 h4 h5 h6
  · refine pcallK_intro h1 (by simp only [go_sem, Nat.reduceEqDiff, Nat.reduceAdd, Nat.reduceSub, Nat.reduceMul, Nat.reduceLeDiff, Nat.reduceLT, Nat.reduceBEq, reduceIte, ea]) ?_
    simp only [go_sem, Nat.reduceEqDiff, Nat.reduceAdd, Nat.reduceSub, Nat.reduceMul, Nat.reduceLeDiff, Nat.reduceLT, Nat.reduceBEq, reduceIte, Int.reduceBEq, Int.reduceBNe, Int.reduceLT, Int.reduceLE, Int.reduceGT, Int.reduceGE, decide_true, decide_false, Int.reduceAdd, Int.reduceSub, Int.reduceNeg, Int.cast_ofNat_Int, wrapC, Int.reduceToNat, Int.zero_le_ofNat, bne_self_eq_false, ea]
    refine pcallK_intro h2 (by simp only [go_sem, Nat.reduceEqDiff, Nat.reduceAdd, Nat.reduceSub, Nat.reduceMul, Nat.reduceLeDiff, Nat.reduceLT, Nat.reduceBEq, reduceIte, ea]) ?_
    simp only [go_sem, Nat.reduceEqDiff, Nat.reduceAdd, Nat.reduceSub, Nat.reduceMul, Nat.reduceLeDiff, Nat.reduceLT, Nat.reduceBEq, reduceIte, Int.reduceBEq, Int.reduceBNe, Int.reduceLT, Int.reduceLE, Int.reduceGT, Int.reduceGE, decide_true, decide_false, Int.reduceAdd, Int.reduceSub, Int.reduceNeg, Int.cast_ofNat_Int, wrapC, Int.reduceToNat, Int.zero_le_ofNat, bne_self_eq_false, ea]
    refine pcallK_intro h5 (by simp only [go_sem, Nat.reduceEqDiff, Nat.reduceAdd, Nat.reduceSub, Nat.reduceMul, Nat.reduceLeDiff, Nat.reduceLT, Nat.reduceBEq, reduceIte, ea]) ?_
    simp only [go_sem, Nat.reduceEqDiff, Nat.reduceAdd, Nat.reduceSub, Nat.reduceMul, Nat.reduceLeDiff, Nat.reduceLT, Nat.reduceBEq, reduceIte, Int.reduceBEq, Int.reduceBNe, Int.reduceLT, Int.reduceLE, Int.reduceGT, Int.reduceGE, decide_true, decide_false, Int.reduceAdd, Int.reduceSub, Int.reduceNeg, Int.cast_ofNat_Int, wrapC, Int.reduceToNat, Int.zero_le_ofNat, bne_self_eq_false, ea]
    refine pcallK_intro h2 (by simp only [go_sem, Nat.reduceEqDiff, Nat.reduceAdd, Nat.reduceSub, Nat.reduceMul, Nat.reduceLeDiff, Nat.reduceLT, Nat.reduceBEq, reduceIte, ea]) ?_
    simp only [go_sem, Nat.reduceEqDiff, Nat.reduceAdd, Nat.reduceSub, Nat.reduceMul, Nat.reduceLeDiff, Nat.reduceLT, Nat.reduceBEq, reduceIte, Int.reduceBEq, Int.reduceBNe, Int.reduceLT, Int.reduceLE, Int.reduceGT, Int.reduceGE, decide_true, decide_false, Int.reduceAdd, Int.reduceSub, Int.reduceNeg, Int.cast_ofNat_Int, wrapC, Int.reduceToNat, Int.zero_le_ofNat, bne_self_eq_false, ea]
    exact .same _
  · refine pcallK_intro h1 (by simp only [go_sem, Nat.reduceEqDiff, Nat.reduceAdd, Nat.reduceSub, Nat.reduceMul, Nat.reduceLeDiff, Nat.reduceLT, Nat.reduceBEq, reduceIte, ea]) ?_
    simp only [go_sem, Nat.reduceEqDiff, Nat.reduceAdd, Nat.reduceSub, Nat.reduceMul, Nat.reduceLeDiff, Nat.reduceLT, Nat.reduceBEq, reduceIte, Int.reduceBEq, Int.reduceBNe, Int.reduceLT, Int.reduceLE, Int.reduceGT, Int.reduceGE, decide_true, decide_false, Int.reduceAdd, Int.reduceSub, Int.reduceNeg, Int.cast_ofNat_Int, wrapC, Int.reduceToNat, Int.zero_le_ofNat, bne_self_eq_false, ea]
    refine pcallK_intro h2 (by simp only [go_sem, Nat.reduceEqDiff, Nat.reduceAdd, Nat.reduceSub, Nat.reduceMul, Nat.reduceLeDiff, Nat.reduceLT, Nat.reduceBEq, reduceIte, ea]) ?_
    simp only [go_sem, Nat.reduceEqDiff, Nat.reduceAdd, Nat.reduceSub, Nat.reduceMul, Nat.reduceLeDiff, Nat.reduceLT, Nat.reduceBEq, reduceIte, Int.reduceBEq, Int.reduceBNe, Int.reduceLT, Int.reduceLE, Int.reduceGT, Int.reduceGE, decide_true, decide_false, Int.reduceAdd, Int.reduceSub, Int.reduceNeg, Int.cast_ofNat_Int, wrapC, Int.reduceToNat, Int.zero_le_ofNat, bne_self_eq_false, ea]
    refine pcallK_intro h5 (by simp only [go_sem, Nat.reduceEqDiff, Nat.reduceAdd, Nat.reduceSub, Nat.reduceMul, Nat.reduceLeDiff, Nat.reduceLT, Nat.reduceBEq, reduceIte, ea]) ?_
    simp only [go_sem, Nat.reduceEqDiff, Nat.reduceAdd, Nat.reduceSub, Nat.reduceMul, Nat.reduceLeDiff, Nat.reduceLT, Nat.reduceBEq, reduceIte, Int.reduceBEq, Int.reduceBNe, Int.reduceLT, Int.reduceLE, Int.reduceGT, Int.reduceGE, decide_true, decide_false, Int.reduceAdd, Int.reduceSub, Int.reduceNeg, Int.cast_ofNat_Int, wrapC, Int.reduceToNat, Int.zero_le_ofNat, bne_self_eq_false, ea]
    refine pcallK_intro h2 (by simp only [go_sem, Nat.reduceEqDiff, Nat.reduceAdd, Nat.reduceSub, Nat.reduceMul, Nat.reduceLeDiff, Nat.reduceLT, Nat.reduceBEq, reduceIte, ea]) ?_
    simp only [go_sem, Nat.reduceEqDiff, Nat.reduceAdd, Nat.reduceSub, Nat.reduceMul, Nat.reduceLeDiff, Nat.reduceLT, Nat.reduceBEq, reduceIte, Int.reduceBEq, Int.reduceBNe, Int.reduceLT, Int.reduceLE, Int.reduceGT, Int.reduceGE, decide_true, decide_false, Int.reduceAdd, Int.reduceSub, Int.reduceNeg, Int.cast_ofNat_Int, wrapC, Int.reduceToNat, Int.zero_le_ofNat, bne_self_eq_false, ea]
    exact .same _
  · refine pcallK_intro h1 (by simp only [go_sem, Nat.reduceEqDiff, Nat.reduceAdd, Nat.reduceSub, Nat.reduceMul, Nat.reduceLeDiff, Nat.reduceLT, Nat.reduceBEq, reduceIte, ea]) ?_
    simp only [go_sem, Nat.reduceEqDiff, Nat.reduceAdd, Nat.reduceSub, Nat.reduceMul, Nat.reduceLeDiff, Nat.reduceLT, Nat.reduceBEq, reduceIte, Int.reduceBEq, Int.reduceBNe, Int.reduceLT, Int.reduceLE, Int.reduceGT, Int.reduceGE, decide_true, decide_false, Int.reduceAdd, Int.reduceSub, Int.reduceNeg, Int.cast_ofNat_Int, wrapC, Int.reduceToNat, Int.zero_le_ofNat, bne_self_eq_false, ea]
    refine pcallK_intro h2 (by simp only [go_sem, Nat.reduceEqDiff, Nat.reduceAdd, Nat.reduceSub, Nat.reduceMul, Nat.reduceLeDiff, Nat.reduceLT, Nat.reduceBEq, reduceIte, ea]) ?_
    simp only [go_sem, Nat.reduceEqDiff, Nat.reduceAdd, Nat.reduceSub, Nat.reduceMul, Nat.reduceLeDiff, Nat.reduceLT, Nat.reduceBEq, reduceIte, Int.reduceBEq, Int.reduceBNe, Int.reduceLT, Int.reduceLE, Int.reduceGT, Int.reduceGE, decide_true, decide_false, Int.reduceAdd, Int.reduceSub, Int.reduceNeg, Int.cast_ofNat_Int, wrapC, Int.reduceToNat, Int.zero_le_ofNat, bne_self_eq_false, ea]
    refine pcallK_intro h5 (by simp only [go_sem, Nat.reduceEqDiff, Nat.reduceAdd, Nat.reduceSub, Nat.reduceMul, Nat.reduceLeDiff, Nat.reduceLT, Nat.reduceBEq, reduceIte, ea]) ?_
    simp only [go_sem, Nat.reduceEqDiff, Nat.reduceAdd, Nat.reduceSub, Nat.reduceMul, Nat.reduceLeDiff, Nat.reduceLT, Nat.reduceBEq, reduceIte, Int.reduceBEq, Int.reduceBNe, Int.reduceLT, Int.reduceLE, Int.reduceGT, Int.reduceGE, decide_true, decide_false, Int.reduceAdd, Int.reduceSub, Int.reduceNeg, Int.cast_ofNat_Int, wrapC, Int.reduceToNat, Int.zero_le_ofNat, bne_self_eq_false, ea]
    refine pcallK_intro h2 (by simp only [go_sem, Nat.reduceEqDiff, Nat.reduceAdd, Nat.reduceSub, Nat.reduceMul, Nat.reduceLeDiff, Nat.reduceLT, Nat.reduceBEq, reduceIte, ea]) ?_
    simp only [go_sem, Nat.reduceEqDiff, Nat.reduceAdd, Nat.reduceSub, Nat.reduceMul, Nat.reduceLeDiff, Nat.reduceLT, Nat.reduceBEq, reduceIte, Int.reduceBEq, Int.reduceBNe, Int.reduceLT, Int.reduceLE, Int.reduceGT, Int.reduceGE, decide_true, decide_false, Int.reduceAdd, Int.reduceSub, Int.reduceNeg, Int.cast_ofNat_Int, wrapC, Int.reduceToNat, Int.zero_le_ofNat, bne_self_eq_false, ea]
    exact .same _
  · refine pcallK_intro h1 (by simp only [go_sem, Nat.reduceEqDiff, Nat.reduceAdd, Nat.reduceSub, Nat.reduceMul, Nat.reduceLeDiff, Nat.reduceLT, Nat.reduceBEq, reduceIte, ea]) ?_
    simp only [go_sem, Nat.reduceEqDiff, Nat.reduceAdd, Nat.reduceSub, Nat.reduceMul, Nat.reduceLeDiff, Nat.reduceLT, Nat.reduceBEq, reduceIte, Int.reduceBEq, Int.reduceBNe, Int.reduceLT, Int.reduceLE, Int.reduceGT, Int.reduceGE, decide_true, decide_false, Int.reduceAdd, Int.reduceSub, Int.reduceNeg, Int.cast_ofNat_Int, wrapC, Int.reduceToNat, Int.zero_le_ofNat, bne_self_eq_false, ea]
    refine pcallK_intro h2 (by simp only [go_sem, Nat.reduceEqDiff, Nat.reduceAdd, Nat.reduceSub, Nat.reduceMul, Nat.reduceLeDiff, Nat.reduceLT, Nat.reduceBEq, reduceIte, ea]) ?_
    simp only [go_sem, Nat.reduceEqDiff, Nat.reduceAdd, Nat.reduceSub, Nat.reduceMul, Nat.reduceLeDiff, Nat.reduceLT, Nat.reduceBEq, reduceIte, Int.reduceBEq, Int.reduceBNe, Int.reduceLT, Int.reduceLE, Int.reduceGT, Int.reduceGE, decide_true, decide_false, Int.reduceAdd, Int.reduceSub, Int.reduceNeg, Int.cast_ofNat_Int, wrapC, Int.reduceToNat, Int.zero_le_ofNat, bne_self_eq_false, ea]
    refine pcallK_intro h5 (by simp only [go_sem, Nat.reduceEqDiff, Nat.reduceAdd, Nat.reduceSub, Nat.reduceMul, Nat.reduceLeDiff, Nat.reduceLT, Nat.reduceBEq, reduceIte, ea]) ?_
    simp only [go_sem, Nat.reduceEqDiff, Nat.reduceAdd, Nat.reduceSub, Nat.reduceMul, Nat.reduceLeDiff, Nat.reduceLT, Nat.reduceBEq, reduceIte, Int.reduceBEq, Int.reduceBNe, Int.reduceLT, Int.reduceLE, Int.reduceGT, Int.reduceGE, decide_true, decide_false, Int.reduceAdd, Int.reduceSub, Int.reduceNeg, Int.cast_ofNat_Int, wrapC, Int.reduceToNat, Int.zero_le_ofNat, bne_self_eq_false, ea]
    refine pcallK_intro h2 (by simp only [go_sem, Nat.reduceEqDiff, Nat.reduceAdd, Nat.reduceSub, Nat.reduceMul, Nat.reduceLeDiff, Nat.reduceLT, Nat.reduceBEq, reduceIte, ea]) ?_
    simp only [go_sem, Nat.reduceEqDiff, Nat.reduceAdd, Nat.reduceSub, Nat.reduceMul, Nat.reduceLeDiff, Nat.reduceLT, Nat.reduceBEq, reduceIte, Int.reduceBEq, Int.reduceBNe, Int.reduceLT, Int.reduceLE, Int.reduceGT, Int.reduceGE, decide_true, decide_false, Int.reduceAdd, Int.reduceSub, Int.reduceNeg, Int.cast_ofNat_Int, wrapC, Int.reduceToNat, Int.zero_le_ofNat, bne_self_eq_false, ea]
    exact .same _
  · refine pcallK_intro h1 (by simp only [go_sem, Nat.reduceEqDiff, Nat.reduceAdd, Nat.reduceSub, Nat.reduceMul, Nat.reduceLeDiff, Nat.reduceLT, Nat.reduceBEq, reduceIte, ea]) ?_
    simp only [go_sem, Nat.reduceEqDiff, Nat.reduceAdd, Nat.reduceSub, Nat.reduceMul, Nat.reduceLeDiff, Nat.reduceLT, Nat.reduceBEq, reduceIte, Int.reduceBEq, Int.reduceBNe, Int.reduceLT, Int.reduceLE, Int.reduceGT, Int.reduceGE, decide_true, decide_false, Int.reduceAdd, Int.reduceSub, Int.reduceNeg, Int.cast_ofNat_Int, wrapC, Int.reduceToNat, Int.zero_le_ofNat, bne_self_eq_false, ea]
    refine pcallK_intro h2 (by simp only [go_sem, Nat.reduceEqDiff, Nat.reduceAdd, Nat.reduceSub, Nat.reduceMul, Nat.reduceLeDiff, Nat.reduceLT, Nat.reduceBEq, reduceIte, ea]) ?_
    simp only [go_sem, Nat.reduceEqDiff, Nat.reduceAdd, Nat.reduceSub, Nat.reduceMul, Nat.reduceLeDiff, Nat.reduceLT, Nat.reduceBEq, reduceIte, Int.reduceBEq, Int.reduceBNe, Int.reduceLT, Int.reduceLE, Int.reduceGT, Int.reduceGE, decide_true, decide_false, Int.reduceAdd, Int.reduceSub, Int.reduceNeg, Int.cast_ofNat_Int, wrapC, Int.reduceToNat, Int.zero_le_ofNat, bne_self_eq_false, ea]
    refine pcallK_intro h3 (by simp only [go_sem, Nat.reduceEqDiff, Nat.reduceAdd, Nat.reduceSub, Nat.reduceMul, Nat.reduceLeDiff, Nat.reduceLT, Nat.reduceBEq, reduceIte, ea]) ?_
    simp only [go_sem, Nat.reduceEqDiff, Nat.reduceAdd, Nat.reduceSub, Nat.reduceMul, Nat.reduceLeDiff, Nat.reduceLT, Nat.reduceBEq, reduceIte, Int.reduceBEq, Int.reduceBNe, Int.reduceLT, Int.reduceLE, Int.reduceGT, Int.reduceGE, decide_true, decide_false, Int.reduceAdd, Int.reduceSub, Int.reduceNeg, Int.cast_ofNat_Int, wrapC, Int.reduceToNat, Int.zero_le_ofNat, bne_self_eq_false, ea]
    refine pcallK_intro h4 (by simp only [go_sem, Nat.reduceEqDiff, Nat.reduceAdd, Nat.reduceSub, Nat.reduceMul, Nat.reduceLeDiff, Nat.reduceLT, Nat.reduceBEq, reduceIte, ea]) ?_
    simp only [go_sem, Nat.reduceEqDiff, Nat.reduceAdd, Nat.reduceSub, Nat.reduceMul, Nat.reduceLeDiff, Nat.reduceLT, Nat.reduceBEq, reduceIte, Int.reduceBEq, Int.reduceBNe, Int.reduceLT, Int.reduceLE, Int.reduceGT, Int.reduceGE, decide_true, decide_false, Int.reduceAdd, Int.reduceSub, Int.reduceNeg, Int.cast_ofNat_Int, wrapC, Int.reduceToNat, Int.zero_le_ofNat, bne_self_eq_false, ea]
    refine pcallK_intro h5 (by simp only [go_sem, Nat.reduceEqDiff, Nat.reduceAdd, Nat.reduceSub, Nat.reduceMul, Nat.reduceLeDiff, Nat.reduceLT, Nat.reduceBEq, reduceIte, ea]) ?_
    simp only [go_sem, Nat.reduceEqDiff, Nat.reduceAdd, Nat.reduceSub, Nat.reduceMul, Nat.reduceLeDiff, Nat.reduceLT, Nat.reduceBEq, reduceIte, Int.reduceBEq, Int.reduceBNe, Int.reduceLT, Int.reduceLE, Int.reduceGT, Int.reduceGE, decide_true, decide_false, Int.reduceAdd, Int.reduceSub, Int.reduceNeg, Int.cast_ofNat_Int, wrapC, Int.reduceToNat, Int.zero_le_ofNat, bne_self_eq_false, ea]
    refine pcallK_intro h2 (by simp only [go_sem, Nat.reduceEqDiff, Nat.reduceAdd, Nat.reduceSub, Nat.reduceMul, Nat.reduceLeDiff, Nat.reduceLT, Nat.reduceBEq, reduceIte, ea]) ?_
    simp only [go_sem, Nat.reduceEqDiff, Nat.reduceAdd, Nat.reduceSub, Nat.reduceMul, Nat.reduceLeDiff, Nat.reduceLT, Nat.reduceBEq, reduceIte, Int.reduceBEq, Int.reduceBNe, Int.reduceLT, Int.reduceLE, Int.reduceGT, Int.reduceGE, decide_true, decide_false, Int.reduceAdd, Int.reduceSub, Int.reduceNeg, Int.cast_ofNat_Int, wrapC, Int.reduceToNat, Int.zero_le_ofNat, bne_self_eq_false, ea]
    refine pcallK_intro h6 (by simp only [go_sem, Nat.reduceEqDiff, Nat.reduceAdd, Nat.reduceSub, Nat.reduceMul, Nat.reduceLeDiff, Nat.reduceLT, Nat.reduceBEq, reduceIte, ea]) ?_
    simp only [go_sem, Nat.reduceEqDiff, Nat.reduceAdd, Nat.reduceSub, Nat.reduceMul, Nat.reduceLeDiff, Nat.reduceLT, Nat.reduceBEq, reduceIte, Int.reduceBEq, Int.reduceBNe, Int.reduceLT, Int.reduceLE, Int.reduceGT, Int.reduceGE, decide_true, decide_false, Int.reduceAdd, Int.reduceSub, Int.reduceNeg, Int.cast_ofNat_Int, wrapC, Int.reduceToNat, Int.zero_le_ofNat, bne_self_eq_false, ea]
    exact .same _
  · refine pcallK_intro h1 (by simp only [go_sem, Nat.reduceEqDiff, Nat.reduceAdd, Nat.reduceSub, Nat.reduceMul, Nat.reduceLeDiff, Nat.reduceLT, Nat.reduceBEq, reduceIte, ea]) ?_
    simp only [go_sem, Nat.reduceEqDiff, Nat.reduceAdd, Nat.reduceSub, Nat.reduceMul, Nat.reduceLeDiff, Nat.reduceLT, Nat.reduceBEq, reduceIte, Int.reduceBEq, Int.reduceBNe, Int.reduceLT, Int.reduceLE, Int.reduceGT, Int.reduceGE, decide_true, decide_false, Int.reduceAdd, Int.reduceSub, Int.reduceNeg, Int.cast_ofNat_Int, wrapC, Int.reduceToNat, Int.zero_le_ofNat, bne_self_eq_false, ea]
    refine pcallK_intro h2 (by simp only [go_sem, Nat.reduceEqDiff, Nat.reduceAdd, Nat.reduceSub, Nat.reduceMul, Nat.reduceLeDiff, Nat.reduceLT, Nat.reduceBEq, reduceIte, ea]) ?_
    simp only [go_sem, Nat.reduceEqDiff, Nat.reduceAdd, Nat.reduceSub, Nat.reduceMul, Nat.reduceLeDiff, Nat.reduceLT, Nat.reduceBEq, reduceIte, Int.reduceBEq, Int.reduceBNe, Int.reduceLT, Int.reduceLE, Int.reduceGT, Int.reduceGE, decide_true, decide_false, Int.reduceAdd, Int.reduceSub, Int.reduceNeg, Int.cast_ofNat_Int, wrapC, Int.reduceToNat, Int.zero_le_ofNat, bne_self_eq_false, ea]
    refine pcallK_intro h3 (by simp only [go_sem, Nat.reduceEqDiff, Nat.reduceAdd, Nat.reduceSub, Nat.reduceMul, Nat.reduceLeDiff, Nat.reduceLT, Nat.reduceBEq, reduceIte, ea]) ?_
    simp only [go_sem, Nat.reduceEqDiff, Nat.reduceAdd, Nat.reduceSub, Nat.reduceMul, Nat.reduceLeDiff, Nat.reduceLT, Nat.reduceBEq, reduceIte, Int.reduceBEq, Int.reduceBNe, Int.reduceLT, Int.reduceLE, Int.reduceGT, Int.reduceGE, decide_true, decide_false, Int.reduceAdd, Int.reduceSub, Int.reduceNeg, Int.cast_ofNat_Int, wrapC, Int.reduceToNat, Int.zero_le_ofNat, bne_self_eq_false, ea]
    refine pcallK_intro h4 (by simp only [go_sem, Nat.reduceEqDiff, Nat.reduceAdd, Nat.reduceSub, Nat.reduceMul, Nat.reduceLeDiff, Nat.reduceLT, Nat.reduceBEq, reduceIte, ea]) ?_
    simp only [go_sem, Nat.reduceEqDiff, Nat.reduceAdd, Nat.reduceSub, Nat.reduceMul, Nat.reduceLeDiff, Nat.reduceLT, Nat.reduceBEq, reduceIte, Int.reduceBEq, Int.reduceBNe, Int.reduceLT, Int.reduceLE, Int.reduceGT, Int.reduceGE, decide_true, decide_false, Int.reduceAdd, Int.reduceSub, Int.reduceNeg, Int.cast_ofNat_Int, wrapC, Int.reduceToNat, Int.zero_le_ofNat, bne_self_eq_false, ea]
    refine pcallK_intro h5 (by simp only [go_sem, Nat.reduceEqDiff, Nat.reduceAdd, Nat.reduceSub, Nat.reduceMul, Nat.reduceLeDiff, Nat.reduceLT, Nat.reduceBEq, reduceIte, ea]) ?_
    simp only [go_sem, Nat.reduceEqDiff, Nat.reduceAdd, Nat.reduceSub, Nat.reduceMul, Nat.reduceLeDiff, Nat.reduceLT, Nat.reduceBEq, reduceIte, Int.reduceBEq, Int.reduceBNe, Int.reduceLT, Int.reduceLE, Int.reduceGT, Int.reduceGE, decide_true, decide_false, Int.reduceAdd, Int.reduceSub, Int.reduceNeg, Int.cast_ofNat_Int, wrapC, Int.reduceToNat, Int.zero_le_ofNat, bne_self_eq_false, ea]
    refine pcallK_intro h2 (by simp only [go_sem, Nat.reduceEqDiff, Nat.reduceAdd, Nat.reduceSub, Nat.reduceMul, Nat.reduceLeDiff, Nat.reduceLT, Nat.reduceBEq, reduceIte, ea]) ?_
    simp only [go_sem, Nat.reduceEqDiff, Nat.reduceAdd, Nat.reduceSub, Nat.reduceMul, Nat.reduceLeDiff, Nat.reduceLT, Nat.reduceBEq, reduceIte, Int.reduceBEq, Int.reduceBNe, Int.reduceLT, Int.reduceLE, Int.reduceGT, Int.reduceGE, decide_true, decide_false, Int.reduceAdd, Int.reduceSub, Int.reduceNeg, Int.cast_ofNat_Int, wrapC, Int.reduceToNat, Int.zero_le_ofNat, bne_self_eq_false, ea]
    refine pcallK_intro h6 (by simp only [go_sem, Nat.reduceEqDiff, Nat.reduceAdd, Nat.reduceSub, Nat.reduceMul, Nat.reduceLeDiff, Nat.reduceLT, Nat.reduceBEq, reduceIte, ea]) ?_
    simp only [go_sem, Nat.reduceEqDiff, Nat.reduceAdd, Nat.reduceSub, Nat.reduceMul, Nat.reduceLeDiff, Nat.reduceLT, Nat.reduceBEq, reduceIte, Int.reduceBEq, Int.reduceBNe, Int.reduceLT, Int.reduceLE, Int.reduceGT, Int.reduceGE, decide_true, decide_false, Int.reduceAdd, Int.reduceSub, Int.reduceNeg, Int.cast_ofNat_Int, wrapC, Int.reduceToNat, Int.zero_le_ofNat, bne_self_eq_false, ea]
    exact .same _
  · refine pcallK_intro h1 (by simp only [go_sem, Nat.reduceEqDiff, Nat.reduceAdd, Nat.reduceSub, Nat.reduceMul, Nat.reduceLeDiff, Nat.reduceLT, Nat.reduceBEq, reduceIte, ea]) ?_
    simp only [go_sem, Nat.reduceEqDiff, Nat.reduceAdd, Nat.reduceSub, Nat.reduceMul, Nat.reduceLeDiff, Nat.reduceLT, Nat.reduceBEq, reduceIte, Int.reduceBEq, Int.reduceBNe, Int.reduceLT, Int.reduceLE, Int.reduceGT, Int.reduceGE, decide_true, decide_false, Int.reduceAdd, Int.reduceSub, Int.reduceNeg, Int.cast_ofNat_Int, wrapC, Int.reduceToNat, Int.zero_le_ofNat, bne_self_eq_false, ea]
    refine pcallK_intro h2 (by simp only [go_sem, Nat.reduceEqDiff, Nat.reduceAdd, Nat.reduceSub, Nat.reduceMul, Nat.reduceLeDiff, Nat.reduceLT, Nat.reduceBEq, reduceIte, ea]) ?_
    simp only [go_sem, Nat.reduceEqDiff, Nat.reduceAdd, Nat.reduceSub, Nat.reduceMul, Nat.reduceLeDiff, Nat.reduceLT, Nat.reduceBEq, reduceIte, Int.reduceBEq, Int.reduceBNe, Int.reduceLT, Int.reduceLE, Int.reduceGT, Int.reduceGE, decide_true, decide_false, Int.reduceAdd, Int.reduceSub, Int.reduceNeg, Int.cast_ofNat_Int, wrapC, Int.reduceToNat, Int.zero_le_ofNat, bne_self_eq_false, ea]
    refine pcallK_intro h3 (by simp only [go_sem, Nat.reduceEqDiff, Nat.reduceAdd, Nat.reduceSub, Nat.reduceMul, Nat.reduceLeDiff, Nat.reduceLT, Nat.reduceBEq, reduceIte, ea]) ?_
    simp only [go_sem, Nat.reduceEqDiff, Nat.reduceAdd, Nat.reduceSub, Nat.reduceMul, Nat.reduceLeDiff, Nat.reduceLT, Nat.reduceBEq, reduceIte, Int.reduceBEq, Int.reduceBNe, Int.reduceLT, Int.reduceLE, Int.reduceGT, Int.reduceGE, decide_true, decide_false, Int.reduceAdd, Int.reduceSub, Int.reduceNeg, Int.cast_ofNat_Int, wrapC, Int.reduceToNat, Int.zero_le_ofNat, bne_self_eq_false, ea]
    refine pcallK_intro h5 (by simp only [go_sem, Nat.reduceEqDiff, Nat.reduceAdd, Nat.reduceSub, Nat.reduceMul, Nat.reduceLeDiff, Nat.reduceLT, Nat.reduceBEq, reduceIte, ea]) ?_
    simp only [go_sem, Nat.reduceEqDiff, Nat.reduceAdd, Nat.reduceSub, Nat.reduceMul, Nat.reduceLeDiff, Nat.reduceLT, Nat.reduceBEq, reduceIte, Int.reduceBEq, Int.reduceBNe, Int.reduceLT, Int.reduceLE, Int.reduceGT, Int.reduceGE, decide_true, decide_false, Int.reduceAdd, Int.reduceSub, Int.reduceNeg, Int.cast_ofNat_Int, wrapC, Int.reduceToNat, Int.zero_le_ofNat, bne_self_eq_false, ea]
    refine pcallK_intro h2 (by simp only [go_sem, Nat.reduceEqDiff, Nat.reduceAdd, Nat.reduceSub, Nat.reduceMul, Nat.reduceLeDiff, Nat.reduceLT, Nat.reduceBEq, reduceIte, ea]) ?_
    simp only [go_sem, Nat.reduceEqDiff, Nat.reduceAdd, Nat.reduceSub, Nat.reduceMul, Nat.reduceLeDiff, Nat.reduceLT, Nat.reduceBEq, reduceIte, Int.reduceBEq, Int.reduceBNe, Int.reduceLT, Int.reduceLE, Int.reduceGT, Int.reduceGE, decide_true, decide_false, Int.reduceAdd, Int.reduceSub, Int.reduceNeg, Int.cast_ofNat_Int, wrapC, Int.reduceToNat, Int.zero_le_ofNat, bne_self_eq_false, ea]
    refine pcallK_intro h6 (by simp only [go_sem, Nat.reduceEqDiff, Nat.reduceAdd, Nat.reduceSub, Nat.reduceMul, Nat.reduceLeDiff, Nat.reduceLT, Nat.reduceBEq, reduceIte, ea]) ?_
    simp only [go_sem, Nat.reduceEqDiff, Nat.reduceAdd, Nat.reduceSub, Nat.reduceMul, Nat.reduceLeDiff, Nat.reduceLT, Nat.reduceBEq, reduceIte, Int.reduceBEq, Int.reduceBNe, Int.reduceLT, Int.reduceLE, Int.reduceGT, Int.reduceGE, decide_true, decide_false, Int.reduceAdd, Int.reduceSub, Int.reduceNeg, Int.cast_ofNat_Int, wrapC, Int.reduceToNat, Int.zero_le_ofNat, bne_self_eq_false, ea]
    exact .same _
  · refine pcallK_intro h1 (by simp only [go_sem, Nat.reduceEqDiff, Nat.reduceAdd, Nat.reduceSub, Nat.reduceMul, Nat.reduceLeDiff, Nat.reduceLT, Nat.reduceBEq, reduceIte, ea]) ?_
    simp only [go_sem, Nat.reduceEqDiff, Nat.reduceAdd, Nat.reduceSub, Nat.reduceMul, Nat.reduceLeDiff, Nat.reduceLT, Nat.reduceBEq, reduceIte, Int.reduceBEq, Int.reduceBNe, Int.reduceLT, Int.reduceLE, Int.reduceGT, Int.reduceGE, decide_true, decide_false, Int.reduceAdd, Int.reduceSub, Int.reduceNeg, Int.cast_ofNat_Int, wrapC, Int.reduceToNat, Int.zero_le_ofNat, bne_self_eq_false, ea]
    refine pcallK_intro h2 (by simp only [go_sem, Nat.reduceEqDiff, Nat.reduceAdd, Nat.reduceSub, Nat.reduceMul, Nat.reduceLeDiff, Nat.reduceLT, Nat.reduceBEq, reduceIte, ea]) ?_
    simp only [go_sem, Nat.reduceEqDiff, Nat.reduceAdd, Nat.reduceSub, Nat.reduceMul, Nat.reduceLeDiff, Nat.reduceLT, Nat.reduceBEq, reduceIte, Int.reduceBEq, Int.reduceBNe, Int.reduceLT, Int.reduceLE, Int.reduceGT, Int.reduceGE, decide_true, decide_false, Int.reduceAdd, Int.reduceSub, Int.reduceNeg, Int.cast_ofNat_Int, wrapC, Int.reduceToNat, Int.zero_le_ofNat, bne_self_eq_false, ea]
    refine pcallK_intro h3 (by simp only [go_sem, Nat.reduceEqDiff, Nat.reduceAdd, Nat.reduceSub, Nat.reduceMul, Nat.reduceLeDiff, Nat.reduceLT, Nat.reduceBEq, reduceIte, ea]) ?_
    simp only [go_sem, Nat.reduceEqDiff, Nat.reduceAdd, Nat.reduceSub, Nat.reduceMul, Nat.reduceLeDiff, Nat.reduceLT, Nat.reduceBEq, reduceIte, Int.reduceBEq, Int.reduceBNe, Int.reduceLT, Int.reduceLE, Int.reduceGT, Int.reduceGE, decide_true, decide_false, Int.reduceAdd, Int.reduceSub, Int.reduceNeg, Int.cast_ofNat_Int, wrapC, Int.reduceToNat, Int.zero_le_ofNat, bne_self_eq_false, ea]
    refine pcallK_intro h5 (by simp only [go_sem, Nat.reduceEqDiff, Nat.reduceAdd, Nat.reduceSub, Nat.reduceMul, Nat.reduceLeDiff, Nat.reduceLT, Nat.reduceBEq, reduceIte, ea]) ?_
    simp only [go_sem, Nat.reduceEqDiff, Nat.reduceAdd, Nat.reduceSub, Nat.reduceMul, Nat.reduceLeDiff, Nat.reduceLT, Nat.reduceBEq, reduceIte, Int.reduceBEq, Int.reduceBNe, Int.reduceLT, Int.reduceLE, Int.reduceGT, Int.reduceGE, decide_true, decide_false, Int.reduceAdd, Int.reduceSub, Int.reduceNeg, Int.cast_ofNat_Int, wrapC, Int.reduceToNat, Int.zero_le_ofNat, bne_self_eq_false, ea]
    refine pcallK_intro h2 (by simp only [go_sem, Nat.reduceEqDiff, Nat.reduceAdd, Nat.reduceSub, Nat.reduceMul, Nat.reduceLeDiff, Nat.reduceLT, Nat.reduceBEq, reduceIte, ea]) ?_
    simp only [go_sem, Nat.reduceEqDiff, Nat.reduceAdd, Nat.reduceSub, Nat.reduceMul, Nat.reduceLeDiff, Nat.reduceLT, Nat.reduceBEq, reduceIte, Int.reduceBEq, Int.reduceBNe, Int.reduceLT, Int.reduceLE, Int.reduceGT, Int.reduceGE, decide_true, decide_false, Int.reduceAdd, Int.reduceSub, Int.reduceNeg, Int.cast_ofNat_Int, wrapC, Int.reduceToNat, Int.zero_le_ofNat, bne_self_eq_false, ea]
    refine pcallK_intro h6 (by simp only [go_sem, Nat.reduceEqDiff, Nat.reduceAdd, Nat.reduceSub, Nat.reduceMul, Nat.reduceLeDiff, Nat.reduceLT, Nat.reduceBEq, reduceIte, ea]) ?_
    simp only [go_sem, Nat.reduceEqDiff, Nat.reduceAdd, Nat.reduceSub, Nat.reduceMul, Nat.reduceLeDiff, Nat.reduceLT, Nat.reduceBEq, reduceIte, Int.reduceBEq, Int.reduceBNe, Int.reduceLT, Int.reduceLE, Int.reduceGT, Int.reduceGE, decide_true, decide_false, Int.reduceAdd, Int.reduceSub, Int.reduceNeg, Int.cast_ofNat_Int, wrapC, Int.reduceToNat, Int.zero_le_ofNat, bne_self_eq_false, ea]
    exact .same _

theorem fn4 (a b c : NamesA) (v : ByteArray) : Cn Try.prog 4 [aggV a.enc, aggV b.enc, aggV c.enc, .d (.val (.string v))] (boolV true) := by
  by_cases ha : a.list.length ≤ 60
  · have l1 : decide ((60 : Int) < (a.list.length : Int)) = false := by simp; omega
    by_cases hb : b.list.length ≤ 60
    · have l2 : decide ((60 : Int) < (b.list.length : Int)) = false := by simp; omega
      by_cases hc : c.list.length ≤ 60
      · have l3 : decide ((60 : Int) < (c.list.length : Int)) = false := by simp; omega
        by_cases va : ValidL a.list
        · by_cases vb : ValidL b.list
          · by_cases vc' : ValidL c.list
            · exact fn4_main a b c v ha hb hc va vb vc'
            · have p1 := pB_true.2 va
              have p2 := pB_true.2 vb
              have p3 := pB_false.2 vc'
              refine Cn.of mixed Try.func4 rfl Try.call4 Try.ntmps4 Try.results4 (by simp) (by kernel_rfl) trivial fun hfit => ?_
              simp only [go_sem, Nat.reduceEqDiff, Nat.reduceAdd, Nat.reduceSub, Nat.reduceMul, Nat.reduceLeDiff, Nat.reduceLT, Nat.reduceBEq, reduceIte, Int.reduceBEq, Int.reduceBNe, Int.reduceLT, Int.reduceLE, Int.reduceGT, Int.reduceGE, decide_true, decide_false, Int.reduceAdd, Int.reduceSub, Int.reduceNeg, Int.cast_ofNat_Int, wrapC, Int.reduceToNat, Int.zero_le_ofNat, bne_self_eq_false, ea]
              refine callK_pure fn7 (by simp only [go_sem, Nat.reduceEqDiff, Nat.reduceAdd, Nat.reduceSub, Nat.reduceMul, Nat.reduceLeDiff, Nat.reduceLT, Nat.reduceBEq, reduceIte]) ?_
              simp only [go_sem, Nat.reduceEqDiff, Nat.reduceAdd, Nat.reduceSub, Nat.reduceMul, Nat.reduceLeDiff, Nat.reduceLT, Nat.reduceBEq, reduceIte, Int.reduceBEq, Int.reduceBNe, Int.reduceLT, Int.reduceLE, Int.reduceGT, Int.reduceGE, decide_true, decide_false, Int.reduceAdd, Int.reduceSub, Int.reduceNeg, Int.cast_ofNat_Int, wrapC, Int.reduceToNat, Int.zero_le_ofNat, bne_self_eq_false, ea, l1, l2, l3]
              refine callK_pure (fn9 a) (by simp only [go_sem, Nat.reduceEqDiff, Nat.reduceAdd, Nat.reduceSub, Nat.reduceMul, Nat.reduceLeDiff, Nat.reduceLT, Nat.reduceBEq, reduceIte, ea]) ?_
              simp only [go_sem, Nat.reduceEqDiff, Nat.reduceAdd, Nat.reduceSub, Nat.reduceMul, Nat.reduceLeDiff, Nat.reduceLT, Nat.reduceBEq, reduceIte, Int.reduceBEq, Int.reduceBNe, Int.reduceLT, Int.reduceLE, Int.reduceGT, Int.reduceGE, decide_true, decide_false, Int.reduceAdd, Int.reduceSub, Int.reduceNeg, Int.cast_ofNat_Int, wrapC, Int.reduceToNat, Int.zero_le_ofNat, bne_self_eq_false, ea, p1, l1, l2, l3]
              refine callK_pure (fn9 b) (by simp only [go_sem, Nat.reduceEqDiff, Nat.reduceAdd, Nat.reduceSub, Nat.reduceMul, Nat.reduceLeDiff, Nat.reduceLT, Nat.reduceBEq, reduceIte, ea]) ?_
              simp only [go_sem, Nat.reduceEqDiff, Nat.reduceAdd, Nat.reduceSub, Nat.reduceMul, Nat.reduceLeDiff, Nat.reduceLT, Nat.reduceBEq, reduceIte, Int.reduceBEq, Int.reduceBNe, Int.reduceLT, Int.reduceLE, Int.reduceGT, Int.reduceGE, decide_true, decide_false, Int.reduceAdd, Int.reduceSub, Int.reduceNeg, Int.cast_ofNat_Int, wrapC, Int.reduceToNat, Int.zero_le_ofNat, bne_self_eq_false, ea, p1, p2, l1, l2, l3]
              refine callK_pure (fn9 c) (by simp only [go_sem, Nat.reduceEqDiff, Nat.reduceAdd, Nat.reduceSub, Nat.reduceMul, Nat.reduceLeDiff, Nat.reduceLT, Nat.reduceBEq, reduceIte, ea]) ?_
              simp only [go_sem, Nat.reduceEqDiff, Nat.reduceAdd, Nat.reduceSub, Nat.reduceMul, Nat.reduceLeDiff, Nat.reduceLT, Nat.reduceBEq, reduceIte, Int.reduceBEq, Int.reduceBNe, Int.reduceLT, Int.reduceLE, Int.reduceGT, Int.reduceGE, decide_true, decide_false, Int.reduceAdd, Int.reduceSub, Int.reduceNeg, Int.cast_ofNat_Int, wrapC, Int.reduceToNat, Int.zero_le_ofNat, bne_self_eq_false, ea, p1, p2, p3, l1, l2, l3]
              exact .same _
          · have p1 := pB_true.2 va
            have p2 := pB_false.2 vb
            refine Cn.of mixed Try.func4 rfl Try.call4 Try.ntmps4 Try.results4 (by simp) (by kernel_rfl) trivial fun hfit => ?_
            simp only [go_sem, Nat.reduceEqDiff, Nat.reduceAdd, Nat.reduceSub, Nat.reduceMul, Nat.reduceLeDiff, Nat.reduceLT, Nat.reduceBEq, reduceIte, Int.reduceBEq, Int.reduceBNe, Int.reduceLT, Int.reduceLE, Int.reduceGT, Int.reduceGE, decide_true, decide_false, Int.reduceAdd, Int.reduceSub, Int.reduceNeg, Int.cast_ofNat_Int, wrapC, Int.reduceToNat, Int.zero_le_ofNat, bne_self_eq_false, ea]
            refine callK_pure fn7 (by simp only [go_sem, Nat.reduceEqDiff, Nat.reduceAdd, Nat.reduceSub, Nat.reduceMul, Nat.reduceLeDiff, Nat.reduceLT, Nat.reduceBEq, reduceIte]) ?_
            simp only [go_sem, Nat.reduceEqDiff, Nat.reduceAdd, Nat.reduceSub, Nat.reduceMul, Nat.reduceLeDiff, Nat.reduceLT, Nat.reduceBEq, reduceIte, Int.reduceBEq, Int.reduceBNe, Int.reduceLT, Int.reduceLE, Int.reduceGT, Int.reduceGE, decide_true, decide_false, Int.reduceAdd, Int.reduceSub, Int.reduceNeg, Int.cast_ofNat_Int, wrapC, Int.reduceToNat, Int.zero_le_ofNat, bne_self_eq_false, ea, l1, l2, l3]
            refine callK_pure (fn9 a) (by simp only [go_sem, Nat.reduceEqDiff, Nat.reduceAdd, Nat.reduceSub, Nat.reduceMul, Nat.reduceLeDiff, Nat.reduceLT, Nat.reduceBEq, reduceIte, ea]) ?_
            simp only [go_sem, Nat.reduceEqDiff, Nat.reduceAdd, Nat.reduceSub, Nat.reduceMul, Nat.reduceLeDiff, Nat.reduceLT, Nat.reduceBEq, reduceIte, Int.reduceBEq, Int.reduceBNe, Int.reduceLT, Int.reduceLE, Int.reduceGT, Int.reduceGE, decide_true, decide_false, Int.reduceAdd, Int.reduceSub, Int.reduceNeg, Int.cast_ofNat_Int, wrapC, Int.reduceToNat, Int.zero_le_ofNat, bne_self_eq_false, ea, p1, l1, l2, l3]
            refine callK_pure (fn9 b) (by simp only [go_sem, Nat.reduceEqDiff, Nat.reduceAdd, Nat.reduceSub, Nat.reduceMul, Nat.reduceLeDiff, Nat.reduceLT, Nat.reduceBEq, reduceIte, ea]) ?_
            simp only [go_sem, Nat.reduceEqDiff, Nat.reduceAdd, Nat.reduceSub, Nat.reduceMul, Nat.reduceLeDiff, Nat.reduceLT, Nat.reduceBEq, reduceIte, Int.reduceBEq, Int.reduceBNe, Int.reduceLT, Int.reduceLE, Int.reduceGT, Int.reduceGE, decide_true, decide_false, Int.reduceAdd, Int.reduceSub, Int.reduceNeg, Int.cast_ofNat_Int, wrapC, Int.reduceToNat, Int.zero_le_ofNat, bne_self_eq_false, ea, p1, p2, l1, l2, l3]
            exact .same _
        · have p1 := pB_false.2 va
          refine Cn.of mixed Try.func4 rfl Try.call4 Try.ntmps4 Try.results4 (by simp) (by kernel_rfl) trivial fun hfit => ?_
          simp only [go_sem, Nat.reduceEqDiff, Nat.reduceAdd, Nat.reduceSub, Nat.reduceMul, Nat.reduceLeDiff, Nat.reduceLT, Nat.reduceBEq, reduceIte, Int.reduceBEq, Int.reduceBNe, Int.reduceLT, Int.reduceLE, Int.reduceGT, Int.reduceGE, decide_true, decide_false, Int.reduceAdd, Int.reduceSub, Int.reduceNeg, Int.cast_ofNat_Int, wrapC, Int.reduceToNat, Int.zero_le_ofNat, bne_self_eq_false, ea]
          refine callK_pure fn7 (by simp only [go_sem, Nat.reduceEqDiff, Nat.reduceAdd, Nat.reduceSub, Nat.reduceMul, Nat.reduceLeDiff, Nat.reduceLT, Nat.reduceBEq, reduceIte]) ?_
          simp only [go_sem, Nat.reduceEqDiff, Nat.reduceAdd, Nat.reduceSub, Nat.reduceMul, Nat.reduceLeDiff, Nat.reduceLT, Nat.reduceBEq, reduceIte, Int.reduceBEq, Int.reduceBNe, Int.reduceLT, Int.reduceLE, Int.reduceGT, Int.reduceGE, decide_true, decide_false, Int.reduceAdd, Int.reduceSub, Int.reduceNeg, Int.cast_ofNat_Int, wrapC, Int.reduceToNat, Int.zero_le_ofNat, bne_self_eq_false, ea, l1, l2, l3]
          refine callK_pure (fn9 a) (by simp only [go_sem, Nat.reduceEqDiff, Nat.reduceAdd, Nat.reduceSub, Nat.reduceMul, Nat.reduceLeDiff, Nat.reduceLT, Nat.reduceBEq, reduceIte, ea]) ?_
          simp only [go_sem, Nat.reduceEqDiff, Nat.reduceAdd, Nat.reduceSub, Nat.reduceMul, Nat.reduceLeDiff, Nat.reduceLT, Nat.reduceBEq, reduceIte, Int.reduceBEq, Int.reduceBNe, Int.reduceLT, Int.reduceLE, Int.reduceGT, Int.reduceGE, decide_true, decide_false, Int.reduceAdd, Int.reduceSub, Int.reduceNeg, Int.cast_ofNat_Int, wrapC, Int.reduceToNat, Int.zero_le_ofNat, bne_self_eq_false, ea, p1, l1, l2, l3]
          exact .same _
      · have l3 : decide ((60 : Int) < (c.list.length : Int)) = true := by simp; omega
        refine Cn.of mixed Try.func4 rfl Try.call4 Try.ntmps4 Try.results4 (by simp) (by kernel_rfl) trivial fun hfit => ?_
        simp only [go_sem, Nat.reduceEqDiff, Nat.reduceAdd, Nat.reduceSub, Nat.reduceMul, Nat.reduceLeDiff, Nat.reduceLT, Nat.reduceBEq, reduceIte, Int.reduceBEq, Int.reduceBNe, Int.reduceLT, Int.reduceLE, Int.reduceGT, Int.reduceGE, decide_true, decide_false, Int.reduceAdd, Int.reduceSub, Int.reduceNeg, Int.cast_ofNat_Int, wrapC, Int.reduceToNat, Int.zero_le_ofNat, bne_self_eq_false, ea]
        refine callK_pure fn7 (by simp only [go_sem, Nat.reduceEqDiff, Nat.reduceAdd, Nat.reduceSub, Nat.reduceMul, Nat.reduceLeDiff, Nat.reduceLT, Nat.reduceBEq, reduceIte]) ?_
        simp only [go_sem, Nat.reduceEqDiff, Nat.reduceAdd, Nat.reduceSub, Nat.reduceMul, Nat.reduceLeDiff, Nat.reduceLT, Nat.reduceBEq, reduceIte, Int.reduceBEq, Int.reduceBNe, Int.reduceLT, Int.reduceLE, Int.reduceGT, Int.reduceGE, decide_true, decide_false, Int.reduceAdd, Int.reduceSub, Int.reduceNeg, Int.cast_ofNat_Int, wrapC, Int.reduceToNat, Int.zero_le_ofNat, bne_self_eq_false, ea, l1, l2, l3]
        exact .same _
    · have l2 : decide ((60 : Int) < (b.list.length : Int)) = true := by simp; omega
      refine Cn.of mixed Try.func4 rfl Try.call4 Try.ntmps4 Try.results4 (by simp) (by kernel_rfl) trivial fun hfit => ?_
      simp only [go_sem, Nat.reduceEqDiff, Nat.reduceAdd, Nat.reduceSub, Nat.reduceMul, Nat.reduceLeDiff, Nat.reduceLT, Nat.reduceBEq, reduceIte, Int.reduceBEq, Int.reduceBNe, Int.reduceLT, Int.reduceLE, Int.reduceGT, Int.reduceGE, decide_true, decide_false, Int.reduceAdd, Int.reduceSub, Int.reduceNeg, Int.cast_ofNat_Int, wrapC, Int.reduceToNat, Int.zero_le_ofNat, bne_self_eq_false, ea]
      refine callK_pure fn7 (by simp only [go_sem, Nat.reduceEqDiff, Nat.reduceAdd, Nat.reduceSub, Nat.reduceMul, Nat.reduceLeDiff, Nat.reduceLT, Nat.reduceBEq, reduceIte]) ?_
      simp only [go_sem, Nat.reduceEqDiff, Nat.reduceAdd, Nat.reduceSub, Nat.reduceMul, Nat.reduceLeDiff, Nat.reduceLT, Nat.reduceBEq, reduceIte, Int.reduceBEq, Int.reduceBNe, Int.reduceLT, Int.reduceLE, Int.reduceGT, Int.reduceGE, decide_true, decide_false, Int.reduceAdd, Int.reduceSub, Int.reduceNeg, Int.cast_ofNat_Int, wrapC, Int.reduceToNat, Int.zero_le_ofNat, bne_self_eq_false, ea, l1, l2]
      exact .same _
  · have l1 : decide ((60 : Int) < (a.list.length : Int)) = true := by simp; omega
    refine Cn.of mixed Try.func4 rfl Try.call4 Try.ntmps4 Try.results4 (by simp) (by kernel_rfl) trivial fun hfit => ?_
    simp only [go_sem, Nat.reduceEqDiff, Nat.reduceAdd, Nat.reduceSub, Nat.reduceMul, Nat.reduceLeDiff, Nat.reduceLT, Nat.reduceBEq, reduceIte, Int.reduceBEq, Int.reduceBNe, Int.reduceLT, Int.reduceLE, Int.reduceGT, Int.reduceGE, decide_true, decide_false, Int.reduceAdd, Int.reduceSub, Int.reduceNeg, Int.cast_ofNat_Int, wrapC, Int.reduceToNat, Int.zero_le_ofNat, bne_self_eq_false, ea]
    refine callK_pure fn7 (by simp only [go_sem, Nat.reduceEqDiff, Nat.reduceAdd, Nat.reduceSub, Nat.reduceMul, Nat.reduceLeDiff, Nat.reduceLT, Nat.reduceBEq, reduceIte]) ?_
    simp only [go_sem, Nat.reduceEqDiff, Nat.reduceAdd, Nat.reduceSub, Nat.reduceMul, Nat.reduceLeDiff, Nat.reduceLT, Nat.reduceBEq, reduceIte, Int.reduceBEq, Int.reduceBNe, Int.reduceLT, Int.reduceLE, Int.reduceGT, Int.reduceGE, decide_true, decide_false, Int.reduceAdd, Int.reduceSub, Int.reduceNeg, Int.cast_ofNat_Int, wrapC, Int.reduceToNat, Int.zero_le_ofNat, bne_self_eq_false, ea, l1]
    exact .same _
end Go.Proofs.Ytcgphoghmgeecaa
