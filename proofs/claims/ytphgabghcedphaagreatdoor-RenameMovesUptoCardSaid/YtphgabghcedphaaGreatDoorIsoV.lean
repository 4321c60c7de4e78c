/- Part of the proof of a law: contracts of the functions that the law reaches, or plain laws of them, out of the abstract layer (the texts YtphgabghcedphaaGreatDoorIso..). No condition. -/
import Derived.Test.YtphgabghcedphaaGreatDoorIsoF
namespace Go.Iso
open Go Go.RowKit
set_option linter.unusedSimpArgs false
set_option linter.unusedVariables false
class Mixed (P : Program) : Prop where
 h : P.follows .mixedOrders = true
/-! ### Values in short -/
def vI (z : Int) : V := .d (.val (.int .i64 z))
def vB (b : Bool) : V := .d (.val (.bool b))
def vS (s : ByteArray) : V := .d (.val (.string s))
def vL {α : Type} (f : α → List D) (l : List α) : V := .d (slD f l)
def vE (l : List D) : Option Own := some ⟨l.length, [l.map .d]⟩
def vE1 (v : V) : Option Own := some ⟨1, [[v]]⟩
theorem vI_eq {z : Int} : vI z = .d (.val (.int .i64 z)) := nrfl rfl
theorem vB_eq {b : Bool} : vB b = .d (.val (.bool b)) := nrfl rfl
theorem vS_eq {s : ByteArray} : vS s = .d (.val (.string s)) := nrfl rfl
theorem vL_eq {α : Type} {f : α → List D} {l : List α} : vL f l = .d (slD f l) := nrfl rfl
theorem vE_eq {l : List D} : vE l = some ⟨l.length, [l.map .d]⟩ := nrfl rfl
theorem vE1_eq {v : V} : vE1 v = some ⟨1, [[v]]⟩ := nrfl rfl
attribute [go_sem] vI_eq vB_eq vS_eq vL_eq vE_eq vE1_eq
theorem bE {α β : Type} {o : Option α} {f : α → Option β} {r : β} {C : Prop} (h : o.bind f = some r) (k : ∀ x, o = some x → f x = some r → C) : C := obindE h k
theorem up {S R : Type} {e : Option R} {o : Out S R} {f : S → Option R} {r : R} (h : outM e = some o) (hJ : Out.fin f o = some r) : e = some r := by
 obtain ⟨x, h1, rfl⟩ := outM_some h
 rw [h1]; exact hJ
theorem kpV_acc {rl : List Nat} {o n : Nat} {xs : List (List D)} : kpV rl (accV o n (xs.map (·.map .d))) = accV (ixL rl o) n (xs.map (·.map .d)) := by
 unfold accV; split
 ·exact kpV_d
 ·exact kpV_msl
theorem kpR_data {rl : List Nat} : ∀ {r : List D}, kpR rl (r.map .d) = r.map .d
 | [] => rfl
 | x :: r => by rw [List.map_cons, kpR_cons, kpV_d, kpR_data]
theorem kpRs_data {rl : List Nat} : ∀ {xs : List (List D)}, kpRs rl (xs.map (·.map .d)) = xs.map (·.map .d)
 | [] => rfl
 | x :: r => by rw [List.map_cons, kpRs_cons, kpR_data, kpRs_data]
theorem kpO_acc {rl : List Nat} {n : Nat} {xs : List (List D)} : kpO rl (accO n (xs.map (·.map .d))) = accO n (xs.map (·.map .d)) := by
 unfold accO; split
 ·exact kpO_none
 ·rw [kpO_some, kpRs_data]
theorem refsL_datT {S : Nat → Prop} : ∀ {r : List D}, V.refsL S (r.map .d)
 | [] => by unfold V.refsL; trivial
 | x :: r => by
  show V.refsL S (.d x :: r.map .d)
  unfold V.refsL; exact ⟨by unfold V.refs; trivial, refsL_datT⟩
theorem okKRs_data {rl : List Nat} {xs : List (List D)} : okKRs rl (xs.map (·.map .d)) = True := eq_true (by
 induction xs with
 | nil => trivial
 | cons x r ih => exact ⟨refsL_datT, ih⟩)
theorem okKO_acc {rl : List Nat} {n : Nat} {xs : List (List D)} : okKO rl (accO n (xs.map (·.map .d))) = True := by
 unfold accO; split
 ·rw [okKO_none]
 ·rw [okKO_some, okKRs_data]
attribute [go_sem high] kpV_acc kpO_acc okKO_acc
theorem bShr_one {k : IntKind} {a : Int} : bShr k a 1 = a.fdiv 2 := by cases k <;> rfl
attribute [go_sem] kpRs_data okKRs_data bShr_one
section
variable {P : Program} {N B : Nat} {Q : Exit → St → Prop} {st : St} {σ : Heap} {fr : Nat → V}
theorem AW.ro [Glb] [hm : Mixed P] {id n : Nat} {l : List Oper} {dr : Bool} {y : Code} {G : Prop} (k : G) (hok : okB N (.region id l.toArray dr) = true := by kernel_rfl)
  (e : numK (n + l.length) (Later (Hold fun M => vcOps P dr n M l.toArray l 0 fr σ (Later (Hold fun fr σ => thenQ (fun s => AW P N B y Q s) Q .normal ⟨fr, σ, M⟩)))) = G := by ((try simp only [go_sem, Nat.reduceEqDiff, Nat.reduceAdd, Nat.reduceSub, Nat.reduceMul, Nat.reduceLeDiff, Nat.reduceLT, Nat.reduceBEq, reduceIte, *]); exact rfl)) : AW P N B (.seq (.region id l.toArray dr) y) Q ⟨fr, σ, n⟩ :=
 AW.one (AW.reg hm.h hok (e ▸ k))
theorem AW.rp [Glb] [hm : Mixed P] {id n : Nat} {l : List Oper} {dr : Bool} {G : Prop} (k : G) (hok : okB N (.region id l.toArray dr) = true := by kernel_rfl)
  (e : numK (n + l.length) (Later (Hold fun M => vcOps P dr n M l.toArray l 0 fr σ (Later (Hold fun fr σ => Q .normal ⟨fr, σ, M⟩)))) = G := by ((try simp only [go_sem, Nat.reduceEqDiff, Nat.reduceAdd, Nat.reduceSub, Nat.reduceMul, Nat.reduceLeDiff, Nat.reduceLT, Nat.reduceBEq, reduceIte, *]); exact rfl)) : AW P N B (.region id l.toArray dr) Q ⟨fr, σ, n⟩ :=
 AW.reg hm.h hok (e ▸ k)
theorem AW.kr [Glb] [hm : Mixed P] {id : Nat} {l : List Oper} {dr : Bool} {y : Code} {fl : List (Nat × V)} {h : List (Option Own)} {G : Prop} (rl ks : List Nat) (k : G)
  (hr : (rl.Nodup ∧ rangeB rl B ∧ B ≤ rl.length ∧ okKF rl st.fr ks ∧ okKH rl st.σ rl) ∧ kpF rl st.fr ks = fl ∧ kpH rl st.σ rl = h := by (simp only [go_sem, Nat.reduceEqDiff, Nat.reduceAdd, Nat.reduceSub, Nat.reduceMul, Nat.reduceLeDiff, Nat.reduceLT, Nat.reduceBEq, reduceIte]; exact ⟨rfl, rfl⟩))
  (hok : okB N (.region id l.toArray dr) = true := by kernel_rfl)
  (e : numK (h.length + l.length) (Later (Hold fun M => vcOps P dr h.length M l.toArray l 0 (frL fl) (hpO h) (Later (Hold fun fr σ => thenQ (fun s => AW P N B y Q s) Q .normal ⟨fr, σ, M⟩)))) = G := by ((try simp only [go_sem, Nat.reduceEqDiff, Nat.reduceAdd, Nat.reduceSub, Nat.reduceMul, Nat.reduceLeDiff, Nat.reduceLT, Nat.reduceBEq, reduceIte, *]); exact rfl)) : AW P N B (.seq (.region id l.toArray dr) y) Q st := by
 obtain ⟨h1, rfl, rfl⟩ := hr
 exact AW.round (kp_round h1) (AW.one (AW.reg hm.h hok (e ▸ k)))
theorem AW.ks [Glb] {c : Code} {l : List (Nat × V)} {h : List (Option Own)} (rl ks : List Nat) (k : AW P N B c Q (mkR l h))
  (hr : (rl.Nodup ∧ rangeB rl B ∧ B ≤ rl.length ∧ okKF rl st.fr ks ∧ okKH rl st.σ rl) ∧ kpF rl st.fr ks = l ∧ kpH rl st.σ rl = h := by (simp only [go_sem, Nat.reduceEqDiff, Nat.reduceAdd, Nat.reduceSub, Nat.reduceMul, Nat.reduceLeDiff, Nat.reduceLT, Nat.reduceBEq, reduceIte]; exact ⟨rfl, rfl⟩)) : AW P N B c Q st := AW.kp rl ks k hr
theorem AW.tt [Glb] {α : Type} {c : Operand} {x y : Code} {t : Bool} {a b r : Option α} (h : (if t = true then a else b) = r) (h1 : t = true → a = r → AW P N B x Q st) (h2 : t = false → b = r → AW P N B y Q st)
  (hc : evO st.fr c = .d (.val (.bool t)) := by (simp only [go_sem, Nat.reduceEqDiff, Nat.reduceAdd, Nat.reduceSub, Nat.reduceMul, Nat.reduceLeDiff, Nat.reduceLT, Nat.reduceBEq, reduceIte])) : AW P N B (.cond c x y) Q st :=
 AW.cond hc (fun ht => h1 ht (ifT ht h)) (fun ht => h2 ht (ifF ht h))
theorem AW.tk [Glb] {α : Type} {c : Operand} {x : Code} {t : Bool} {a b r : Option α} {G : Prop} (h : (if t = true then a else b) = r) (h1 : t = true → a = r → AW P N B x Q st) (h2 : t = false → b = r → G)
  (hc : evO st.fr c = .d (.val (.bool t)) := by (simp only [go_sem, Nat.reduceEqDiff, Nat.reduceAdd, Nat.reduceSub, Nat.reduceMul, Nat.reduceLeDiff, Nat.reduceLT, Nat.reduceBEq, reduceIte]))
  (e : Q .normal st = G := by ((try simp only [go_sem, Nat.reduceEqDiff, Nat.reduceAdd, Nat.reduceSub, Nat.reduceMul, Nat.reduceLeDiff, Nat.reduceLT, Nat.reduceBEq, reduceIte]); exact rfl)) : AW P N B (.cond c x .skip) Q st :=
 AW.tt h h1 (fun ht hb => AW.skip (e ▸ h2 ht hb)) hc
theorem sK {α : Type} {t : Bool} {A C : Unit → Prop} {a b r : Option α} {G1 G2 : Prop} (h : (if t = true then a else b) = r) (h1 : t = true → a = r → G1) (h2 : t = false → b = r → G2)
  (e1 : t = true → A () = G1 := by (intro hb; (try simp only [go_sem, Nat.reduceEqDiff, Nat.reduceAdd, Nat.reduceSub, Nat.reduceMul, Nat.reduceLeDiff, Nat.reduceLT, Nat.reduceBEq, reduceIte, *]); exact rfl))
  (e2 : t = false → C () = G2 := by (intro hb; (try simp only [go_sem, Nat.reduceEqDiff, Nat.reduceAdd, Nat.reduceSub, Nat.reduceMul, Nat.reduceLeDiff, Nat.reduceLT, Nat.reduceBEq, reduceIte, *]); exact rfl)) : splitK t A C :=
 ⟨fun ht => (e1 ht) ▸ h1 ht (ifT ht h), fun ht => (e2 ht) ▸ h2 ht (ifF ht h)⟩
theorem bb {α β : Type} {o : Option α} {f : α → Option β} {r : β} {p : Prop} {G : α → Prop} (h : o.bind f = some r) (k : ∀ x, o = some x → f x = some r → G x)
  (e : ∀ x, o = some x → p = G x := by (intro x hx; (try simp only [go_sem, Nat.reduceEqDiff, Nat.reduceAdd, Nat.reduceSub, Nat.reduceMul, Nat.reduceLeDiff, Nat.reduceLT, Nat.reduceBEq, reduceIte, *]); exact rfl)) : p :=
 let ⟨x, h1, h2⟩ := obind h; (e x h1) ▸ k x h1 h2
theorem bx {α β : Type} {l : List α} {z : Int} {f : α → Option β} {r : β} {p : Prop} {G : α → Prop} (h : (idx l z).bind f = some r) (k : ∀ x, 0 ≤ z → l[z.toNat]? = some x → f x = some r → G x)
  (e : ∀ x, 0 ≤ z → l[z.toNat]? = some x → p = G x := by (intro x h0 h1; (try simp only [go_sem, Nat.reduceEqDiff, Nat.reduceAdd, Nat.reduceSub, Nat.reduceMul, Nat.reduceLeDiff, Nat.reduceLT, Nat.reduceBEq, reduceIte, *]); exact rfl)) : p :=
 let ⟨x, h1, h2⟩ := obind h; let ⟨h3, h4⟩ := idx_some h1; (e x h3 h4) ▸ k x h3 h4 h2
theorem bt {a b x : ByteArray} (h : catO a b = some x) : ∀ P t, bop P t .add (.string a) (.string b) = some (.string x) := fun _ _ => bop_cat h
theorem bi {α β : Type} {l : List α} {z : Int} {f : α → Option β} {r : β} {p : Prop} {G : α → Prop} (h : (idx l z).bind f = some r)
  (k : ∀ x, 0 ≤ z → l[z.toNat]? = some x → z < (l.length : Int) → (∀ (g : α → List D) o n, accV o n ((l.map g).map (·.map .d)) = .msl o n 0 l.length) → (∀ (g : α → List D) n, accO n ((l.map g).map (·.map .d)) = some ⟨n, (l.map g).map (·.map .d)⟩) → f x = some r → G x)
  (e : ∀ x, 0 ≤ z → l[z.toNat]? = some x → z < (l.length : Int) → (∀ (g : α → List D) o n, accV o n ((l.map g).map (·.map .d)) = .msl o n 0 l.length) → (∀ (g : α → List D) n, accO n ((l.map g).map (·.map .d)) = some ⟨n, (l.map g).map (·.map .d)⟩) → p = G x := by (intro x h0 h1 h2 h3 h4; (try simp only [go_sem, Nat.reduceEqDiff, Nat.reduceAdd, Nat.reduceSub, Nat.reduceMul, Nat.reduceLeDiff, Nat.reduceLT, Nat.reduceBEq, reduceIte, *]); exact rfl)) : p :=
 let ⟨x, h1, h2⟩ := obind h; let ⟨h3, h4⟩ := idx_some h1
 have a := fun (g : α → List D) o n => accV_idx (f := g) (o := o) (n := n) h1
 have b := fun (g : α → List D) n => accO_idx (f := g) (n := n) h1
 (e x h3 h4 (idx_lt h1) a b) ▸ k x h3 h4 (idx_lt h1) a b h2
theorem mq {b : Int} {u : Unit} (h : must (b != 0) = some u) : ∀ P t k a, bop P t .quo (.int k a) (.int k b) = some (.int k (k.wrap (a.tdiv b))) := fun _ _ _ _ => bop_quo (must_ne h)
theorem mr {b : Int} {u : Unit} (h : must (b != 0) = some u) : ∀ P t k a, bop P t .rem (.int k a) (.int k b) = some (.int k (a.tmod b)) := fun _ _ _ _ => bop_rem (must_ne h)
theorem ml {b : Int} {u : Unit} (h : must (decide (0 ≤ b)) = some u) : ∀ P t k k' a, bop P t .shl (.int k a) (.int k' b) = some (.int k (bShl k a b)) := fun _ _ _ _ _ => bop_shlO h
theorem ms {b : Int} {u : Unit} (h : must (decide (0 ≤ b)) = some u) : ∀ P t k k' a, bop P t .shr (.int k a) (.int k' b) = some (.int k (bShr k a b)) := fun _ _ _ _ _ => bop_shrO h
theorem cm [Glb] {α β : Type} {o : Option α} {F : α → Option β} {res : β} {f : FuncId} {caps args A : List V} {W : α → V} {L : V → Heap → Prop} {id : Nat} {G : α → Prop} (h : o.bind F = some res) (ok : ∀ {r}, o = some r → Cn P f A (W r))
  (k : ∀ r, o = some r → F r = some res → G r)
  (ea : args ++ caps = A := by ((try simp only [go_sem, Nat.reduceEqDiff, Nat.reduceAdd, Nat.reduceSub, Nat.reduceMul, Nat.reduceLeDiff, Nat.reduceLT, Nat.reduceBEq, reduceIte, *]); try exact rfl))
  (hr : V.refsL NoRef (args ++ caps) := by (simp only [go_sem, Nat.reduceEqDiff, Nat.reduceAdd, Nat.reduceSub, Nat.reduceMul, Nat.reduceLeDiff, Nat.reduceLT, Nat.reduceBEq, reduceIte]))
  (e : ∀ r, o = some r → L (W r) σ = G r := by (intro r hr; (try simp only [go_sem, Nat.reduceEqDiff, Nat.reduceAdd, Nat.reduceSub, Nat.reduceMul, Nat.reduceLeDiff, Nat.reduceLT, Nat.reduceBEq, reduceIte, *]); exact rfl)) : callK P (.fn f caps) args σ N id L :=
 let ⟨x, h1, h2⟩ := obind h
 callK_pure (ea ▸ ok h1) hr ((e x h1) ▸ k x h1 h2)
theorem pm [Glb] {α β : Type} {o : Option α} {F : α → Option β} {res : β} {f : FuncId} {caps args A : List V} {W : α → V} {L : V → Prop} {G : α → Prop} (h : o.bind F = some res) (ok : ∀ {r}, o = some r → Cn P f A (W r))
  (k : ∀ r, o = some r → F r = some res → G r)
  (ea : args ++ caps = A := by ((try simp only [go_sem, Nat.reduceEqDiff, Nat.reduceAdd, Nat.reduceSub, Nat.reduceMul, Nat.reduceLeDiff, Nat.reduceLT, Nat.reduceBEq, reduceIte, *]); try exact rfl))
  (hr : V.refsL NoRef (args ++ caps) := by (simp only [go_sem, Nat.reduceEqDiff, Nat.reduceAdd, Nat.reduceSub, Nat.reduceMul, Nat.reduceLeDiff, Nat.reduceLT, Nat.reduceBEq, reduceIte]))
  (e : ∀ r, o = some r → L (W r) = G r := by (intro r hr; (try simp only [go_sem, Nat.reduceEqDiff, Nat.reduceAdd, Nat.reduceSub, Nat.reduceMul, Nat.reduceLeDiff, Nat.reduceLT, Nat.reduceBEq, reduceIte, *]); exact rfl)) : pcallK P σ (.fn f caps) args L :=
 let ⟨x, h1, h2⟩ := obind h
 pcallK_intro (ea ▸ ok h1) hr ((e x h1) ▸ k x h1 h2)
theorem cl [Glb] {α β : Type} {o : Option α} {F : α → Option β} {res : β} {f : FuncId} {caps args A A' : List V} {W : α → V} {L : V → Heap → Prop} {id : Nat} {G : α → Prop} (h : o.bind F = some res) (ok : ∀ {r}, o = some r → Cn P f A (W r))
  (k : ∀ r, o = some r → F r = some res → G r)
  (ea : A = A' := by ((try simp only [go_sem, Nat.reduceEqDiff, Nat.reduceAdd, Nat.reduceSub, Nat.reduceMul, Nat.reduceLeDiff, Nat.reduceLT, Nat.reduceBEq, reduceIte, *]); exact rfl))
  (hr : V.refsL NoRef A' := by (simp only [go_sem, Nat.reduceEqDiff, Nat.reduceAdd, Nat.reduceSub, Nat.reduceMul, Nat.reduceLeDiff, Nat.reduceLT, Nat.reduceBEq, reduceIte]))
  (hv : ∀ r, (W r).flat := by (intro r; simp [V.flat, V.flatL]))
  (hs : SealAll σ (args ++ caps) A')
  (e : ∀ r, o = some r → L (W r) σ = G r := by (intro r hr; (try simp only [go_sem, Nat.reduceEqDiff, Nat.reduceAdd, Nat.reduceSub, Nat.reduceMul, Nat.reduceLeDiff, Nat.reduceLT, Nat.reduceBEq, reduceIte, *]); exact rfl)) : callK P (.fn f caps) args σ N id L :=
 let ⟨x, h1, h2⟩ := obind h
 callK_look (ea ▸ ok h1) hs hr (hv x) ((e x h1) ▸ k x h1 h2)
theorem cv [Glb] {α β : Type} {o : Option α} {F : α → Option β} {res : β} {f : FuncId} {caps args A A' : List V} {W : α → V} {L : V → Heap → Prop} {id : Nat} {G : α → Prop} (h : o.bind F = some res) (ok : ∀ {r}, o = some r → Cn P f A (W r))
  (k : ∀ r, o = some r → F r = some res → G r)
  (ea : A = A' := by ((try simp only [go_sem, Nat.reduceEqDiff, Nat.reduceAdd, Nat.reduceSub, Nat.reduceMul, Nat.reduceLeDiff, Nat.reduceLT, Nat.reduceBEq, reduceIte, *]); exact rfl))
  (hr : V.refsL NoRef A' := by (simp only [go_sem, Nat.reduceEqDiff, Nat.reduceAdd, Nat.reduceSub, Nat.reduceMul, Nat.reduceLeDiff, Nat.reduceLT, Nat.reduceBEq, reduceIte]))
  (hs : SealAll Heap.none (args ++ caps) A')
  (e : ∀ r, o = some r → L (W r) σ = G r := by (intro r hr; (try simp only [go_sem, Nat.reduceEqDiff, Nat.reduceAdd, Nat.reduceSub, Nat.reduceMul, Nat.reduceLeDiff, Nat.reduceLT, Nat.reduceBEq, reduceIte, *]); exact rfl)) : callK P (.fn f caps) args σ N id L :=
 let ⟨x, h1, h2⟩ := obind h
 callK_conv (ea ▸ ok h1) hs hr ((e x h1) ▸ k x h1 h2)
theorem ja {S : Type} {l : S → List (Nat × V)} {h : S → List (Option Own)} {s : St} {a J : S} (rl : List Nat) (hj : some a = some J)
  (hr : RoundC B rl s (l a) (h a) := by (simp only [go_sem, Nat.reduceEqDiff, Nat.reduceAdd, Nat.reduceSub, Nat.reduceMul, Nat.reduceLeDiff, Nat.reduceLT, Nat.reduceBEq, reduceIte, *])) : JoinQ B l h (fun x => x = J) s := JoinQ.mk a rl (Option.some.inj hj) hr
theorem jo {S R : Type} {l : S → List (Nat × V)} {h : S → List (Option Own)} {s : St} {a : S} {J : Out S R} (rl : List Nat) (hj : some (.go a) = some J)
  (hr : RoundC B rl s (l a) (h a) := by (simp only [go_sem, Nat.reduceEqDiff, Nat.reduceAdd, Nat.reduceSub, Nat.reduceMul, Nat.reduceLeDiff, Nat.reduceLT, Nat.reduceBEq, reduceIte, *])) : JoinQ B l h (fun x => J = .go x) s := JoinQ.mk a rl (Option.some.inj hj).symm hr
theorem na {S R : Type} {l : S → List (Nat × V)} {h : S → List (Option Own)} {F : S → Option R} {o : R} {s : St} {a : S} (rl : List Nat) (hj : F a = some o)
  (hr : RoundC B rl s (l a) (h a) := by (simp only [go_sem, Nat.reduceEqDiff, Nat.reduceAdd, Nat.reduceSub, Nat.reduceMul, Nat.reduceLeDiff, Nat.reduceLT, Nat.reduceBEq, reduceIte, *])) : NextQ B l h F o s := NextQ.mk a rl hj hr
theorem AW.jn [Glb] {S β : Type} {x y : Code} {o : Option S} {F : S → Option β} {r : β} (h : o.bind F = some r) (l : S → List (Nat × V)) (hp : S → List (Option Own))
  (h1 : ∀ J, o = some J → AW P N B x (thenQ (JoinQ B l hp (fun s => s = J)) (thenQ (fun s => AW P N B y Q s) Q)) st) (h2 : ∀ s, F s = some r → AW P N B y Q (mkR (l s) (hp s))) : AW P N B (.seq x y) Q st :=
 let ⟨J, k1, k2⟩ := obind h
 AW.one (AW.join l hp (fun s => s = J) (h1 J k1) fun s hs => h2 s (hs ▸ k2))
theorem AW.jo [Glb] {S β : Type} {x y : Code} {o : Option (Out S β)} {F : S → Option β} {r : β} (h : o.bind (Out.fin F) = some r) (l : S → List (Nat × V)) (hp : S → List (Option Own))
  (h1 : ∀ J, o = some J → Out.fin F J = some r → AW P N B x (thenQ (JoinQ B l hp (fun s => J = .go s)) (thenQ (fun s => AW P N B y Q s) Q)) st) (h2 : ∀ s, F s = some r → AW P N B y Q (mkR (l s) (hp s))) : AW P N B (.seq x y) Q st :=
 let ⟨J, k1, k2⟩ := obind h
 AW.one (AW.join l hp (fun s => J = .go s) (h1 J k1 k2) fun s hs => h2 s (by subst hs; exact k2))
theorem AW.ln [Glb] {S T β : Type} {id : Nat} {c y : Code} {K : Nat} {f : (T → Option S) → T → Option S} {s0 : T} {F : S → Option β} {r : β} (h : (Iso.iter K f s0).bind F = some r) (l : S → List (Nat × V)) (hp : S → List (Option Own)) (l' : T → List (Nat × V)) (hp' : T → List (Option Own)) (rl0 : List Nat)
  (h1 : ∀ J g s, f g s = some J → AW P N B c (thenQ (NextQ B l' hp' g J) (blockQ id (thenQ (JoinQ B l hp (fun s => s = J)) (thenQ (fun s => AW P N B y Q s) Q)))) (mkR (l' s) (hp' s))) (h2 : ∀ s, F s = some r → AW P N B y Q (mkR (l s) (hp s)))
  (hr : RoundC B rl0 st (l' s0) (hp' s0) := by (simp only [go_sem, Nat.reduceEqDiff, Nat.reduceAdd, Nat.reduceSub, Nat.reduceMul, Nat.reduceLeDiff, Nat.reduceLT, Nat.reduceBEq, reduceIte, *])) : AW P N B (.seq (.block id (.loop c)) y) Q st :=
 AW.jn h l hp (fun J hJ => AW.block (AW.iter l' hp' rl0 hJ hr fun g s hs => h1 J g s hs)) h2
theorem AW.lo [Glb] {S T β : Type} {id : Nat} {c y : Code} {K : Nat} {f : (T → Option (Out S β)) → T → Option (Out S β)} {s0 : T} {F : S → Option β} {r : β} (h : (Iso.iter K f s0).bind (Out.fin F) = some r) (l : S → List (Nat × V)) (hp : S → List (Option Own)) (l' : T → List (Nat × V)) (hp' : T → List (Option Own)) (rl0 : List Nat)
  (h1 : ∀ J, Out.fin F J = some r → ∀ g s, f g s = some J → AW P N B c (thenQ (NextQ B l' hp' g J) (blockQ id (thenQ (JoinQ B l hp (fun s => J = .go s)) (thenQ (fun s => AW P N B y Q s) Q)))) (mkR (l' s) (hp' s))) (h2 : ∀ s, F s = some r → AW P N B y Q (mkR (l s) (hp s)))
  (hr : RoundC B rl0 st (l' s0) (hp' s0) := by (simp only [go_sem, Nat.reduceEqDiff, Nat.reduceAdd, Nat.reduceSub, Nat.reduceMul, Nat.reduceLeDiff, Nat.reduceLT, Nat.reduceBEq, reduceIte, *])) : AW P N B (.seq (.block id (.loop c)) y) Q st :=
 AW.jo h l hp (fun J hJ hF => AW.block (AW.iter l' hp' rl0 hJ hr fun g s hs => h1 J hF g s hs)) h2
theorem AW.jm [Glb] {S β : Type} {x : Code} {o : Option S} {F : S → Option β} {r : β} {G : S → Prop} (h : o.bind F = some r) (l : S → List (Nat × V)) (hp : S → List (Option Own))
  (h1 : ∀ J, o = some J → AW P N B x (thenQ (JoinQ B l hp (fun s => s = J)) Q) st) (h2 : ∀ s, F s = some r → G s)
  (e : ∀ s, Q .normal (mkR (l s) (hp s)) = G s := by (intro s; (try simp only [go_sem, Nat.reduceEqDiff, Nat.reduceAdd, Nat.reduceSub, Nat.reduceMul, Nat.reduceLeDiff, Nat.reduceLT, Nat.reduceBEq, reduceIte, *]); exact rfl)) : AW P N B x Q st :=
 let ⟨J, k1, k2⟩ := obind h
 AW.join l hp (fun s => s = J) (h1 J k1) fun s hs => (e s) ▸ h2 s (hs ▸ k2)
theorem AW.jp [Glb] {S β : Type} {x : Code} {o : Option (Out S β)} {F : S → Option β} {r : β} {G : S → Prop} (h : o.bind (Out.fin F) = some r) (l : S → List (Nat × V)) (hp : S → List (Option Own))
  (h1 : ∀ J, o = some J → Out.fin F J = some r → AW P N B x (thenQ (JoinQ B l hp (fun s => J = .go s)) Q) st) (h2 : ∀ s, F s = some r → G s)
  (e : ∀ s, Q .normal (mkR (l s) (hp s)) = G s := by (intro s; (try simp only [go_sem, Nat.reduceEqDiff, Nat.reduceAdd, Nat.reduceSub, Nat.reduceMul, Nat.reduceLeDiff, Nat.reduceLT, Nat.reduceBEq, reduceIte, *]); exact rfl)) : AW P N B x Q st :=
 let ⟨J, k1, k2⟩ := obind h
 AW.join l hp (fun s => J = .go s) (h1 J k1 k2) fun s hs => (e s) ▸ h2 s (by subst hs; exact k2)
theorem AW.lm [Glb] {S T β : Type} {id : Nat} {c : Code} {K : Nat} {f : (T → Option S) → T → Option S} {s0 : T} {F : S → Option β} {r : β} {G : S → Prop} (h : (Iso.iter K f s0).bind F = some r) (l : S → List (Nat × V)) (hp : S → List (Option Own)) (l' : T → List (Nat × V)) (hp' : T → List (Option Own)) (rl0 : List Nat)
  (h1 : ∀ J g s, f g s = some J → AW P N B c (thenQ (NextQ B l' hp' g J) (blockQ id (thenQ (JoinQ B l hp (fun s => s = J)) Q))) (mkR (l' s) (hp' s))) (h2 : ∀ s, F s = some r → G s)
  (hr : RoundC B rl0 st (l' s0) (hp' s0) := by (simp only [go_sem, Nat.reduceEqDiff, Nat.reduceAdd, Nat.reduceSub, Nat.reduceMul, Nat.reduceLeDiff, Nat.reduceLT, Nat.reduceBEq, reduceIte, *])) (e : ∀ s, Q .normal (mkR (l s) (hp s)) = G s := by (intro s; (try simp only [go_sem, Nat.reduceEqDiff, Nat.reduceAdd, Nat.reduceSub, Nat.reduceMul, Nat.reduceLeDiff, Nat.reduceLT, Nat.reduceBEq, reduceIte, *]); exact rfl)) : AW P N B (.block id (.loop c)) Q st :=
 AW.jm h l hp (fun J hJ => AW.block (AW.iter l' hp' rl0 hJ hr fun g s hs => h1 J g s hs)) h2 e
theorem AW.lp [Glb] {S T β : Type} {id : Nat} {c : Code} {K : Nat} {f : (T → Option (Out S β)) → T → Option (Out S β)} {s0 : T} {F : S → Option β} {r : β} {G : S → Prop} (h : (Iso.iter K f s0).bind (Out.fin F) = some r) (l : S → List (Nat × V)) (hp : S → List (Option Own)) (l' : T → List (Nat × V)) (hp' : T → List (Option Own)) (rl0 : List Nat)
  (h1 : ∀ J, Out.fin F J = some r → ∀ g s, f g s = some J → AW P N B c (thenQ (NextQ B l' hp' g J) (blockQ id (thenQ (JoinQ B l hp (fun s => J = .go s)) Q))) (mkR (l' s) (hp' s))) (h2 : ∀ s, F s = some r → G s)
  (hr : RoundC B rl0 st (l' s0) (hp' s0) := by (simp only [go_sem, Nat.reduceEqDiff, Nat.reduceAdd, Nat.reduceSub, Nat.reduceMul, Nat.reduceLeDiff, Nat.reduceLT, Nat.reduceBEq, reduceIte, *])) (e : ∀ s, Q .normal (mkR (l s) (hp s)) = G s := by (intro s; (try simp only [go_sem, Nat.reduceEqDiff, Nat.reduceAdd, Nat.reduceSub, Nat.reduceMul, Nat.reduceLeDiff, Nat.reduceLT, Nat.reduceBEq, reduceIte, *]); exact rfl)) : AW P N B (.block id (.loop c)) Q st :=
 AW.jp h l hp (fun J hJ hF => AW.block (AW.iter l' hp' rl0 hJ hr fun g s hs => h1 J hF g s hs)) h2 e
theorem ns {p q : Prop} (k : q) (e : p = q := by ((try simp only [go_sem, Nat.reduceEqDiff, Nat.reduceAdd, Nat.reduceSub, Nat.reduceMul, Nat.reduceLeDiff, Nat.reduceLT, Nat.reduceBEq, reduceIte, *]); exact rfl)) : p := e ▸ k
theorem ag {α β : Type} {n byt o id : Nat} {z : List V} {sq : Bool} {y : V} {f : α → List D} {l r : List α} {L : V → Heap → Prop} {F : List α → Option β} {res : β} {G : List α → Prop} (h : (appO byt l r).bind F = some res)
  (k : ∀ v, appO byt l r = some v → F v = some res → G v)
  (e : ∀ v, appO byt l r = some v → L (accV id n ((v.map f).map (·.map .d))) (upd (del σ o) id (accO n ((v.map f).map (·.map .d)))) = G v := by (intro v hv; (try simp only [go_sem, Nat.reduceEqDiff, Nat.reduceAdd, Nat.reduceSub, Nat.reduceMul, Nat.reduceLeDiff, Nat.reduceLT, Nat.reduceBEq, reduceIte, *]); exact rfl))
  (hsq : sq = true := by exact rfl) (hσ : σ o = accO n ((l.map f).map (·.map .d)) := by (simp only [go_sem, Nat.reduceEqDiff, Nat.reduceAdd, Nat.reduceSub, Nat.reduceMul, Nat.reduceLeDiff, Nat.reduceLT, Nat.reduceBEq, reduceIte, *])) (h5 : srcRows σ y = some ((r.map f).map (·.map .d)) := by (simp only [go_sem, Nat.reduceEqDiff, Nat.reduceAdd, Nat.reduceSub, Nat.reduceMul, Nat.reduceLeDiff, Nat.reduceLT, Nat.reduceBEq, reduceIte, *])) (h6 : ∀ x ∈ r, (f x).length = n := by (simp only [go_sem, Nat.reduceEqDiff, Nat.reduceAdd, Nat.reduceSub, Nat.reduceMul, Nat.reduceLeDiff, Nat.reduceLT, Nat.reduceBEq, reduceIte, *])) (hne : r ≠ [] := by simp) :
  appK (some (n, byt, z)) sq σ id (accV o n ((l.map f).map (·.map .d))) y L :=
 let ⟨x, h1, h2⟩ := obind h
 appG h1 hsq hσ h5 h6 hne ((e x h1) ▸ k x h1 h2)
theorem an {α β : Type} {n byt id : Nat} {z : List V} {sq : Bool} {y : V} {f : α → List D} {r : List α} {L : V → Heap → Prop} {F : List α → Option β} {res : β} {G : List α → Prop} (h : (appO byt [] r).bind F = some res)
  (k : ∀ v, appO byt [] r = some v → F v = some res → G v)
  (e : ∀ v, appO byt [] r = some v → L (accV id n ((v.map f).map (·.map .d))) (upd σ id (accO n ((v.map f).map (·.map .d)))) = G v := by (intro v hv; (try simp only [go_sem, Nat.reduceEqDiff, Nat.reduceAdd, Nat.reduceSub, Nat.reduceMul, Nat.reduceLeDiff, Nat.reduceLT, Nat.reduceBEq, reduceIte, *]); exact rfl))
  (hsq : sq = true := by exact rfl) (h5 : srcRows σ y = some ((r.map f).map (·.map .d)) := by (simp only [go_sem, Nat.reduceEqDiff, Nat.reduceAdd, Nat.reduceSub, Nat.reduceMul, Nat.reduceLeDiff, Nat.reduceLT, Nat.reduceBEq, reduceIte, *])) (h6 : ∀ x ∈ r, (f x).length = n := by (simp only [go_sem, Nat.reduceEqDiff, Nat.reduceAdd, Nat.reduceSub, Nat.reduceMul, Nat.reduceLeDiff, Nat.reduceLT, Nat.reduceBEq, reduceIte, *])) (hne : r ≠ [] := by simp) :
  appK (some (n, byt, z)) sq σ id (.d (.val (.slice none 0 0))) y L :=
 let ⟨x, h1, h2⟩ := obind h
 appN h1 hsq trivial h5 h6 hne ((e x h1) ▸ k x h1 h2)
theorem Cn.oz [Glb] [hm : Mixed P] {f : FuncId} {fn : Func} {c : Code} {args : List V} {v : V} {rs : Array ResultVar} (hf : P.funcs[f]? = some fn) (hc : Callable P f) (hN : fn.ntmps = N) (hr : fn.results = rs)
  (h : fitA args → AW P N 0 c (retQ P rs.toList (Later (Hold fun st u => SealV st.σ u v))) ⟨argF args, Heap.none, 0⟩)
  (hb : fn.body = some c := by exact rfl) (hn : args.length ≤ N := by simp)
  (hv : v.refs NoRef := by (simp only [go_sem, Nat.reduceEqDiff, Nat.reduceAdd, Nat.reduceSub, Nat.reduceMul, Nat.reduceLeDiff, Nat.reduceLT, Nat.reduceBEq, reduceIte])) : Cn P f args v := Cn.ofA hm.h hf hb hc hN hr hn hv h
end
end Go.Iso
namespace Go.Iso
open Go Go.RowKit
set_option linter.unusedSimpArgs false
set_option linter.unusedVariables false
def gV {α : Type} (o n : Nat) (x : Option (List α)) : V := match x with | none => .d (.val (.slice none 0 0)) | some l => .msl o n 0 l.length
def gO {α : Type} (f : α → List D) (n : Nat) (x : Option (List α)) : Option Own := x.map fun l => ⟨n, (l.map f).map (·.map .d)⟩
section
variable {α : Type} {f : α → List D} {x : Option (List α)} {l : List α} {o n : Nat} {σ : Heap}
theorem gV_none : gV (α := α) o n none = .d (.val (.slice none 0 0)) := nrfl rfl
theorem gO_none : gO f n none = none := nrfl rfl
theorem gO_some : gO f n (some l) = some ⟨n, (l.map f).map (·.map .d)⟩ := nrfl rfl
theorem renV_g {rl : List Nat} : renV rl (gV o n x) = gV (rl.getD o 0) n x := by
 cases x with
 | none => exact renV_d
 | some l => exact renV_msl
theorem refs_g {S : Nat → Prop} : V.refs S (gV o n x) = (x ≠ none → S o) := by
 cases x with
 | none => simp [gV, refs_d]
 | some l => simp [gV, refs_msl]
theorem inO_g {rl : List Nat} {m : Nat} : inO rl m σ o (gO f n x) = (x ≠ none → σ o = gO f n x) := by
 cases x with
 | none => simp [gO, inO]
 | some l => rw [gO_some, inO_some, renRows_data, okRows_dataT]; simp
theorem kpV_g {rl : List Nat} : kpV rl (gV o n x) = gV (ixL rl o) n x := by
 cases x with
 | none => exact kpV_d
 | some l => exact kpV_msl
theorem kpO_g {rl : List Nat} : kpO rl (gO f n x) = gO f n x := by
 cases x with
 | none => exact kpO_none
 | some l => rw [gO_some, kpO_some, kpRs_data]
theorem okKO_g {rl : List Nat} : okKO rl (gO f n x) = True := by
 cases x with
 | none => rw [gO_none, okKO_none]
 | some l => rw [gO_some, okKO_some, okKRs_data]
theorem toRow_g : toRow (gV o n x) = [gV o n x] := by cases x <;> rfl
theorem rowOk_g : rowOk (gV o n x) = true := by cases x <;> rfl
theorem one_g : (gV o n x).one = true := by cases x <;> rfl
theorem lenK_g {P : Program} {t e : TypeId} {K : V → Prop} (h : elOf P t = some e) : lenK P t (gV o n x) K = K (.d (.val (.int .i64 ((x.getD []).length : Int)))) := by
 cases x with
 | none => exact lenK_nil h
 | some l => exact lenK_msl h
theorem must_ne0 {l : List α} {u : Unit} (h : must (!l.isEmpty) = some u) : l ≠ [] := by
 have := must_some h
 intro e; subst e; cases this
theorem bopV_ne {P : Program} {α : Type} {f : α → List D} {l : List α} {t : TypeId} (ht : nilT P t = true) (h : l ≠ []) : bopV P .eql t (.d (slD f l)) (.d (.val (.slice none 0 0))) = some (.bool false) := by
 cases l with
 | nil => exact absurd rfl h
 | cons x l => show (if nilT P t = true then _ else _) = _; rw [if_pos ht]
end
/-! ### The contract -/
structure Cm [Glb] (P : Program) (f : FuncId) (args : List V) (B : Nat) (h : List (Option Own)) (v : V) (h' : List (Option Own)) : Prop where
 callable : Callable P f
 len : h.length = B + 1
 len' : h'.length = B + 1
 refsA : V.refsL (· < B + 1) args
 refsV : v.refs (· < B + 1)
 refsH : ∀ (j : Nat) y, (h[j]?).join = some y → okRows (B + 1) y.rows
 run : ∀ ρ I w cargs, HeapOk (hpO h) ρ I w → (∀ o, B + 1 ≤ o → ρ o = none) → RepAll ρ I w args cargs →
  Calls P f cargs w fun e w' => ∃ c ρ' I', e = .returned c ∧ Kept (hpO h) ρ I w (hpO h') ρ' I' w' ∧ HeapOk (hpO h') ρ' I' w' ∧ (∀ m, m ≠ B → ρ' m = ρ m) ∧ RepV ρ' I' w' v c
section
variable {P : Program} {σ σ' : Heap} {ρ ρ' : Nat → Option Nat} {I I' : Nat → Prop} {w w' : World}
theorem hpO_lt {h : List (Option Own)} {o : Nat} {x : Own} (hx : hpO h o = some x) : o < h.length := by
 rcases Nat.lt_or_ge o h.length with h' | h'
 ·exact h'
 ·simp [hpO, List.getElem?_eq_none h'] at hx
theorem CallS.grow [Glb] {f : FuncId} {args : List V} {B : Nat} {h h' : List (Option Own)} {v : V} (hc : Cm P f args B h v h') {r r' : Nat → Nat} {N id : Nat} (hin : ∀ j x, hpO h j = some x → σ (r j) = some (x.ren r)) (hinj : ∀ i j, i < B + 1 → j < B + 1 → r i = r j → i = j)
  (hlo : ∀ j, j < B → r' j = r j) (hB : r' B = id) (hid : ∀ j, j < B → r j ≠ id)
  (hout : ∀ o x, σ' o = some x → (∃ j y, hpO h' j = some y ∧ o = r' j ∧ x = y.ren r') ∨ (σ o = some x ∧ o ≠ id ∧ ∀ j, j < B + 1 → o ≠ r j)) : CallS P f (args.map (V.ren r)) σ N id (v.ren r') σ' := by
 refine ⟨hc.callable, fun ρ I w cargs hh _ hfid hA => ?_⟩
 let ρl : Nat → Option Nat := fun o => if o < B + 1 then ρ (r o) else none
 have hρl : ∀ o b, o < B + 1 → ρ (r o) = some b → ρl o = some b := fun o b h1 h2 => by simp only [ρl, h1, if_true]; exact h2
 have hρr : ∀ o b, ρl o = some b → o < B + 1 ∧ ρ (r o) = some b := fun o b h1 => by
  simp only [ρl] at h1; split at h1
  ·next h2 => exact ⟨h2, h1⟩
  ·cases h1
 have ltH : ∀ {o x}, hpO h o = some x → o < B + 1 := fun ho => by have := hpO_lt ho; rwa [hc.len] at this
 have ltH' : ∀ {o x}, hpO h' o = some x → o < B + 1 := fun ho => by have := hpO_lt ho; rwa [hc.len'] at this
 have ownL : ∀ b, Owns (hpO h) ρl b → ∃ j y, hpO h j = some y ∧ j < B + 1 ∧ σ (r j) = some (y.ren r) ∧ ρ (r j) = some b := by
  rintro b ⟨o, x, h1, h2⟩
  obtain ⟨h3, h4⟩ := hρr o b h2
  exact ⟨o, x, h1, h3, hin o x h1, h4⟩
 have ownL' : ∀ b, Owns (hpO h) ρl b → Owns σ ρ b := fun b hb => let ⟨j, y, _, _, h1, h2⟩ := ownL b hb; ⟨r j, _, h1, h2⟩
 have hhl : HeapOk (hpO h) ρl I w := by
  refine ⟨fun o x ho => ?_, fun o o' x x' b h1 h2 h3 h4 => ?_, hh.base⟩
  ·obtain ⟨b, c, e, k1, k2, k3, k4, k5⟩ := hh.own (r o) _ (hin o x ho)
   refine ⟨b, c, e, hρl o b (ltH ho) k1, k2.unren, by simpa [Own.ren] using k3, k4, fun i hi => ?_⟩
   obtain ⟨l1, l2⟩ := k5 i (by simpa [Own.ren] using hi)
   refine ⟨by simpa [Own.ren] using l1, fun j hj' => ?_⟩
   have := l2 j (by simpa [Own.ren] using hj')
   simp only [Own.ren, List.getElem_map] at this
   exact (RepV.unren _ this).reid (hc.refsH o x ho _ (List.getElem_mem hi) _ (List.getElem_mem hj')) fun o b h1 h2 => hρl o b h1 h2
  ·obtain ⟨l1, l2⟩ := hρr _ _ h3
   obtain ⟨l3, l4⟩ := hρr _ _ h4
   exact hinj o o' l1 l3 (hh.inj _ _ _ _ b (hin o x h1) (hin o' x' h2) l2 l4)
 have hAl : RepAll ρl I w args cargs := ⟨by simpa using hA.size, fun i hi => by
  have := hA.rep i (by simpa using hi)
  rw [List.getElem_map] at this
  exact (RepV.unren _ this).reid (V.refsL_get hc.refsA i hi) fun o b h1 h2 => hρl o b h1 h2⟩
 refine Calls.mono (hc.run ρl I w cargs hhl (fun o ho => if_neg (by omega)) hAl) ?_
 rintro e w' ⟨c, ρ1, I', rfl, hk, hh', hsame, hv⟩
 let ρ2 : Nat → Option Nat := fun o => if o = id then ρ1 B else ρ o
 have h2ne : ∀ o, o ≠ id → ρ2 o = ρ o := fun o ho => if_neg ho
 have h2id : ρ2 id = ρ1 B := if_pos rfl
 have key : ∀ o b, ρ o = some b → ρ2 o = some b := fun o b ho => by
  rw [h2ne o (fun e => by rw [e, hfid] at ho; cases ho)]; exact ho
 have hr2 : ∀ o b, ρ1 o = some b → ρ2 (r' o) = some b := fun o b ho => by
  rcases Nat.lt_trichotomy o B with hlt | heq | hgt
  ·rw [hlo o hlt, h2ne _ (hid o hlt)]
   rw [hsame o (by omega)] at ho
   exact (hρr o b ho).2
  ·subst heq; rw [hB, h2id]; exact ho
  ·rw [hsame o (by omega)] at ho
   exact absurd (hρr o b ho).1 (by omega)
 have hren : ∀ {v : V} {c : Value}, RepV ρ1 I' w' v c → RepV ρ2 I' w' (v.ren r') c := fun {v c} hv =>
  RepV.ren v (hv.mono (ρ' := fun o => ρ2 (r' o)) (fun o b h1 => hr2 o b h1) (fun _ h => h) (fun _ _ => rfl) (fun _ => .of_eq rfl))
 -- where a block of the new heap comes from
 have src : ∀ o x b, σ' o = some x → ρ2 o = some b → (∃ j y, hpO h' j = some y ∧ o = r' j ∧ x = y.ren r' ∧ ρ1 j = some b) ∨ (σ o = some x ∧ o ≠ id ∧ (∀ j, j < B + 1 → o ≠ r j) ∧ ρ o = some b) := fun o x b h1 h2 => by
  rcases hout o x h1 with ⟨j, y, hj, rfl, rfl⟩ | ⟨k1, k2, k3⟩
  ·obtain ⟨b', c', e', m1, _⟩ := hh'.own j y hj
   have := hr2 j b' m1
   rw [h2] at this
   exact .inl ⟨j, y, hj, rfl, rfl, by rw [m1]; exact this.symm⟩
  ·exact .inr ⟨k1, k2, k3, by rw [← h2ne o k2]; exact h2⟩
 have own' : ∀ b, Owns σ' ρ2 b → Owns σ ρ b ∨ w.heap.size ≤ b := fun b ⟨o, x, h1, h2⟩ => by
  rcases src o x b h1 h2 with ⟨j, y, hj, rfl, rfl, m1⟩ | ⟨k1, _, _, k4⟩
  ·exact (hk.owned b ⟨j, y, hj, m1⟩).imp (ownL' b) (fun h => h)
  ·exact .inl ⟨o, x, k1, k4⟩
 have apart : ∀ o x b, σ o = some x → (∀ j, j < B + 1 → o ≠ r j) → ρ o = some b → ¬ Owns (hpO h) ρl b := fun o x b h1 h2 h3 ho => by
  obtain ⟨j, y, _, hj, m1, m2⟩ := ownL b ho
  exact h2 j hj (hh.inj _ _ _ _ b h1 m1 h3 m2)
 have hK : Kept σ ρ I w σ' ρ2 I' w' := ⟨hk.os, hk.tape, hk.output, hk.size, fun b hb hn => hk.kept b hb fun ho => hn (ownL' b ho), hk.sz, own', hk.imm, fun b hb => (hk.immNew b hb).imp (fun h => h) (Or.imp (ownL' b) (fun h => h))⟩
 refine ⟨c, ρ2, I', rfl, ⟨hK, key⟩, ⟨fun o x ho => ?_, fun o o' x x' b h1 h2 h3 h4 => ?_, hh'.base⟩, fun x hx => if_neg hx, hren hv⟩
 ·rcases hout o x ho with ⟨j, y, hj, rfl, rfl⟩ | ⟨h1, hne, h2⟩
  ·obtain ⟨b, c, e, k1, k2, k3, k4, k5⟩ := hh'.own j y hj
   refine ⟨b, c, e, hr2 j b k1, k2.ren, by simpa [Own.ren] using k3, k4, fun i hi => ?_⟩
   have hi' : i < y.rows.length := by simpa [Own.ren] using hi
   obtain ⟨l1, l2⟩ := k5 i hi'
   refine ⟨by simpa [Own.ren] using l1, fun m hm => ?_⟩
   simp only [Own.ren, List.getElem_map]
   exact hren (l2 m (by simpa [Own.ren] using hm))
  ·obtain ⟨b, c, e, k1, k2, k3, k4, k5⟩ := hh.own o x h1
   have hb : b < w.heap.size := k2.lt
   have hno := apart o x b h1 h2 k1
   refine ⟨b, c, e, key o b k1, k2.of_eq (hk.kept b hb hno), k3, fun hb' => ?_, fun i hi => ⟨(k5 i hi).1, fun m hm => ?_⟩⟩
   ·rcases hk.immNew b hb' with m | m | m
    ·exact k4 m
    ·exact hno m
    ·omega
   ·exact ((k5 i hi).2 m hm).mono key hk.imm (fun b hb => hk.kept b (hh.lt b hb) (hhl.notOwned hb)) hk.sz
 ·rcases src o x b h1 h3 with ⟨j, y, hj, rfl, rfl, m1⟩ | ⟨k1, k2, k3, k4⟩ <;> rcases src o' x' b h2 h4 with ⟨j', y', hj', rfl, rfl, m1'⟩ | ⟨k1', k2', k3', k4'⟩
  ·rw [hh'.inj _ _ _ _ b hj hj' m1 m1']
  ·rcases hk.owned b ⟨j, y, hj, m1⟩ with m | m
   ·exact absurd m (apart o' x' b k1' k3' k4')
   ·exact absurd (hh.owns_lt ⟨o', x', k1', k4'⟩) (by omega)
  ·rcases hk.owned b ⟨j', y', hj', m1'⟩ with m | m
   ·exact absurd m (apart o x b k1 k3 k4)
   ·exact absurd (hh.owns_lt ⟨o, x, k1, k4⟩) (by omega)
  ·exact hh.inj _ _ _ _ b k1 k1' k4 k4'
/-! ### As the walk uses it -/
def renO (rl : List Nat) (x : Option Own) : Option Own := x.map fun y => ⟨y.k, renRows rl y.rows⟩
theorem renO_some {rl : List Nat} {y : Own} : renO rl (some y) = some ⟨y.k, renRows rl y.rows⟩ := nrfl rfl
theorem renO_none {rl : List Nat} : renO rl none = none := nrfl rfl
theorem renO_g {α : Type} {f : α → List D} {n : Nat} {x : Option (List α)} {rl : List Nat} : renO rl (gO f n x) = gO f n x := by
 cases x with
 | none => rfl
 | some l => rw [gO_some, renO_some, renRows_data]
def updO (rl0 : List Nat) (σ : Heap) : List Nat → List (Option Own) → Heap
 | o :: rl, x :: h => updO rl0 (upd σ o (renO rl0 x)) rl h
 | _, _ => σ
theorem updO_nil {rl0 : List Nat} : updO rl0 σ [] [] = σ := nrfl rfl
theorem updO_cons {rl0 rl : List Nat} {o : Nat} {x : Option Own} {h : List (Option Own)} : updO rl0 σ (o :: rl) (x :: h) = updO rl0 (upd σ o (renO rl0 x)) rl h := nrfl rfl
/-! ### The end of such a function -/
def privG (B o : Nat) (σ : Heap) : Heap := fun m => if m < B then none else if m = o then none else σ m
theorem privG_at {B o m : Nat} : privG B o σ m = if m < B then none else if m = o then none else σ m := nrfl rfl
def endG (B o : Nat) (rl : List Nat) (σ : Heap) : Nat → List (Option Own) → Prop
 | _, [] => True
 | i, x :: r => (∀ y, x = some y → optK (σ i) (Later (Hold fun z => z.k = y.k ∧ SealRows (privG B o σ) z.rows (renRows rl y.rows)))) ∧ endG B o rl σ (i + 1) r
theorem endG_nil {B o i : Nat} {rl : List Nat} : endG B o rl σ i [] = True := nrfl rfl
theorem endG_cons {B o i : Nat} {rl : List Nat} {y : Own} {r : List (Option Own)} : endG B o rl σ i (some y :: r) = (optK (σ i) (Later (Hold fun z => z.k = y.k ∧ SealRows (privG B o σ) z.rows (renRows rl y.rows))) ∧ endG B o rl σ (i + 1) r) := by
 show ((∀ y', some y = some y' → _) ∧ _) = _
 simp
theorem endG_get {B o : Nat} {rl : List Nat} : ∀ {h : List (Option Own)} {i : Nat}, endG B o rl σ i h → ∀ j y, hpO h j = some y → ∃ z, σ (i + j) = some z ∧ z.k = y.k ∧ SealRows (privG B o σ) z.rows (renRows rl y.rows)
 | [], _, _, j, y, hj => by simp [hpO] at hj
 | x :: r, i, h, 0, y, hj => by
  unfold endG at h; obtain ⟨z, h1, h2⟩ := optK_some (h.1 y (by simpa [hpO] using hj)); rw [Later_apply] at h2; exact ⟨z, h1, h2⟩
 | x :: r, i, h, j + 1, y, hj => by
  unfold endG at h
  obtain ⟨z, h1, h2⟩ := endG_get h.2 j y (by simpa [hpO] using hj)
  exact ⟨z, by rw [show i + (j + 1) = i + 1 + j by omega]; exact h1, h2⟩
def EndM (B : Nat) (σ : Heap) (u v : V) (h : List (Option Own)) (x : Option Own) : Prop :=
 ∃ o, B ≤ o ∧ σ o = x ∧ SealV (privG B o σ) u (renV (List.range B ++ [o]) v) ∧ endG B o (List.range B ++ [o]) σ 0 h
theorem EndM.mk {B : Nat} {u v : V} {h : List (Option Own)} {x : Option Own} (o : Nat) (h0 : B ≤ o) (h1 : σ o = x) (h2 : SealV (privG B o σ) u (renV (List.range B ++ [o]) v) ∧ endG B o (List.range B ++ [o]) σ 0 h) : EndM B σ u v h x := ⟨o, h0, h1, h2.1, h2.2⟩
def okL (m : Nat) : List (Option Own) → Prop
 | [] => True
 | x :: r => (∀ y, x = some y → okRows m y.rows) ∧ okL m r
theorem okL_nil {m : Nat} : okL m [] = True := nrfl rfl
theorem okL_cons {m : Nat} {y : Own} {r : List (Option Own)} : okL m (some y :: r) = (okRows m y.rows ∧ okL m r) := by
 show ((∀ y', some y = some y' → _) ∧ _) = _
 simp
theorem okL_get {m : Nat} : ∀ {h : List (Option Own)}, okL m h → ∀ z ∈ h, ∀ y, z = some y → okRows m y.rows
 | [], _, z, hz => by cases hz
 | x :: r, hh, z, hz => by
  unfold okL at hh
  rcases List.mem_cons.1 hz with rfl | hz
  ·exact hh.1
  ·exact okL_get hh.2 z hz
theorem Cm.ofA [Glb] {f : FuncId} {fn : Func} {c : Code} {args : List V} {B : Nat} {h h' : List (Option Own)} {x x' : Option Own} {v : V} {N : Nat} {rs : Array ResultVar} (hm : P.follows .mixedOrders = true) (hf : P.funcs[f]? = some fn) (hb : fn.body = some c) (hc : Callable P f) (hN : fn.ntmps = N) (hr : fn.results = rs) (hn : args.length ≤ N)
  (hl : h.length = B) (hl' : h'.length = B) (hrA : V.refsL (· < B + 1) args) (hrV : v.refs (· < B + 1)) (hrH0 : okL (B + 1) h) (hrH0' : okL (B + 1) h') (hd : datO x) (hd' : datO x')
  (hvc : fitA args → AW P N B c (retQ P rs.toList (Later (Hold fun st u => EndM B st.σ u v h' x'))) ⟨argF args, hpO (h ++ [x]), B + 1⟩) : Cm P f args B (h ++ [x]) v (h' ++ [x']) := by
 have hrH := okL_get hrH0
 have hrH' := okL_get hrH0'
 subst hN hr
 have at1 : ∀ {h : List (Option Own)} {x : Option Own}, h.length = B → ∀ j y, hpO (h ++ [x]) j = some y → (j < B ∧ hpO h j = some y) ∨ (j = B ∧ x = some y) := fun {h x} hl j y hj => by
  have hlt := hpO_lt hj
  simp at hlt
  rcases Nat.lt_or_ge j B with hj' | hj'
  ·exact .inl ⟨hj', by rw [← hj]; simp [hpO, List.getElem?_append_left (show j < h.length by omega)]⟩
  ·have : j = B := by omega
   subst this; subst hl
   exact .inr ⟨rfl, by simpa [hpO] using hj⟩
 have refsD : ∀ {x : Option Own}, datO x → ∀ y, x = some y → okRows (B + 1) y.rows := fun hd y hy r hr u hu => by
  obtain ⟨d, rfl⟩ := hd y hy r hr u hu
  simp [V.refs]
 have refs1 : ∀ {h : List (Option Own)} {x : Option Own}, h.length = B → datO x → (∀ z ∈ h, ∀ y, z = some y → okRows (B + 1) y.rows) → ∀ j y, hpO (h ++ [x]) j = some y → okRows (B + 1) y.rows := fun {h x} hl hd hr j y hj => by
  rcases at1 hl j y hj with ⟨_, h1⟩ | ⟨_, h1⟩
  ·obtain ⟨z, hz, rfl⟩ : ∃ z, h[j]? = some z ∧ z = some y := by
    unfold hpO at h1
    cases hq : h[j]? with
    | none => rw [hq] at h1; cases h1
    | some z => rw [hq] at h1; exact ⟨z, rfl, h1⟩
   exact hr _ (List.mem_of_getElem? hz) y rfl
  ·exact refsD hd y h1
 refine ⟨hc, by simp [hl], by simp [hl'], hrA, hrV, refs1 hl hd hrH, fun ρ I w cargs hh hfr hA => calls_of_wp hf hb ?_⟩
 have hcon : Conc fn.ntmps B ⟨argF args, hpO (h ++ [x]), B + 1⟩ ρ I ⟨cargs ++ Array.replicate (fn.ntmps - cargs.size) undef, []⟩ w :=
  ⟨hh, hfr, fun t => entry_frame hA t, rfl, by simp [hA.size]; omega, Nat.le_succ _⟩
 refine wp_mono (hvc (fitA_of args _ hA.rep) _ I _ w hcon) ?_
 rintro e a' w' ⟨st', ρ', I', h1, h2, h3⟩
 have fin : resK P st' fn.results.toList (fun u => EndM B st'.σ u v h' x') → a'.defers = [] ∧ ∃ c, (results fn a'.tmps).run P w' = .ok c w' ∧ ∃ c' ρ'' I'', Ending.returned c = .returned c' ∧ Kept (hpO (h ++ [x])) ρ I w (hpO (h' ++ [x'])) ρ'' I'' w' ∧ HeapOk (hpO (h' ++ [x'])) ρ'' I'' w' ∧ (∀ m, m ≠ B → ρ'' m = ρ m) ∧ RepV ρ'' I'' w' v c' := by
  intro hk
  obtain ⟨u, c, ⟨o, hBo, ko, k1, kE⟩, k2, k3⟩ := resK_sound h2 hk
  have pge : ∀ m y, privG B o st'.σ m = some y → B ≤ m ∧ m ≠ o ∧ st'.σ m = some y := fun m y hm => by
   unfold privG at hm; split at hm
   ·cases hm
   ·split at hm
    ·cases hm
    ·next e1 e2 => exact ⟨by omega, e2, hm⟩
  have hpr : HeapOk (privG B o st'.σ) ρ' I' w' := h2.heap.forget fun m y hm => (pge m y hm).2.2
  have subP : ∀ b, Owns (privG B o st'.σ) ρ' b → Owns st'.σ ρ' b := fun b ⟨m, y, h1, h2⟩ => ⟨m, y, (pge m y h1).2.2, h2⟩
  let ρ2 : Nat → Option Nat := fun m => if m = B then ρ' o else ρ m
  have r2B : ρ2 B = ρ' o := if_pos rfl
  have r2ne : ∀ m, m ≠ B → ρ2 m = ρ m := fun m hm => if_neg hm
  have rl1 : ∀ m, m < B → (List.range B ++ [o]).getD m 0 = m := fun m hm => by simp [List.getD_eq_getElem?_getD, List.getElem?_append_left (show m < (List.range B).length by simpa using hm), hm]
  have rl2 : (List.range B ++ [o]).getD B 0 = o := by simp [List.getD_eq_getElem?_getD]
  have back : ∀ m b, m < B + 1 → (fun m => ρ' ((List.range B ++ [o]).getD m 0)) m = some b → ρ2 m = some b := fun m b hm hb => by
   simp only at hb
   rcases Nat.lt_succ_iff_lt_or_eq.1 hm with hm' | rfl
   ·rw [rl1 m hm'] at hb
    rw [r2ne m (by omega), ← h3.low m hm']; exact hb
   ·rw [rl2] at hb; rw [r2B]; exact hb
  -- a block of the end's heap, as it stands here
  have stay : ∀ j y, hpO (h' ++ [x']) j = some y → ∃ z m, st'.σ m = some z ∧ z.k = y.k ∧ ρ2 j = ρ' m ∧ (∀ b, ¬ (privG B o st'.σ m = some b)) ∧ SealRows (privG B o st'.σ) z.rows (renRows (List.range B ++ [o]) y.rows) ∧ (j < B ∧ m = j ∨ j = B ∧ m = o) := fun j y hj => by
   rcases at1 hl' j y hj with ⟨hlt, m1⟩ | ⟨rfl, m1⟩
   ·obtain ⟨z, n1, n2, n3⟩ := endG_get kE j y m1
    rw [Nat.zero_add] at n1
    exact ⟨z, j, n1, n2, by rw [r2ne j (by omega), h3.low j hlt], fun b hb => by have := (pge j b hb).1; omega, n3, .inl ⟨hlt, rfl⟩⟩
   ·refine ⟨y, o, ko.trans m1, rfl, r2B, fun b hb => (pge o b hb).2.1 rfl, ?_, .inr ⟨rfl, rfl⟩⟩
    have : renRows (List.range j ++ [o]) y.rows = y.rows := by
     rw [renRows_map]
     refine (List.map_congr_left fun r hr => ?_).trans (List.map_id _)
     refine (List.map_congr_left fun u hu => ?_).trans (List.map_id _)
     obtain ⟨d, rfl⟩ := hd' y m1 r hr u hu
     exact renV_d
    rw [this]; exact SealRows.refl _
  refine ⟨h2.defers, c, k3, c, ρ2, fun b => I' b ∨ Owns (privG B o st'.σ) ρ' b, rfl, ⟨h3.os, h3.tape, h3.output, h3.size, h3.kept, h3.sz, fun b hb => ?_, fun b hb => .inl (h3.imm b hb), fun b hb => ?_⟩, ⟨fun j y hj => ?_, fun j j' y y' b l1 l2 l3 l4 => ?_, h2.heap.base.up (fun _ h => .inl h) fun b hb => ?_⟩, r2ne, ?_⟩
  ·obtain ⟨j, y, l1, l2⟩ := hb
   obtain ⟨z, m, n1, _, n3, _⟩ := stay j y l1
   exact h3.owned b ⟨m, z, n1, by rw [← n3]; exact l2⟩
  ·rcases hb with hb | hb
   ·exact h3.immNew b hb
   ·exact (h3.owned b (subP b hb)).elim (fun h => .inr (.inl h)) (fun h => .inr (.inr h))
  ·obtain ⟨z, m, n1, n2, n3, n4, n5, _⟩ := stay j y hj
   obtain ⟨b, c, e, q1, q2, q3, q4, q5⟩ := h2.heap.own m z n1
   have hlen := n5.get.1
   have hrl : (renRows (List.range B ++ [o]) y.rows).length = y.rows.length := by rw [renRows_map]; simp
   refine ⟨b, c, e, by rw [n3]; exact q1, BlkX.unrows (rl := List.range B ++ [o]) (q2.slr (x' := ⟨y.k, renRows (List.range B ++ [o]) y.rows⟩) n2.symm n5), by rw [← hrl, ← hlen, ← n2]; exact q3, ?_, fun i hi => ?_⟩
   ·rintro (hb | ⟨m', y', l1, l2⟩)
    ·exact q4 hb
    ·have := h2.heap.inj m m' _ _ b n1 (pge m' y' l1).2.2 q1 l2
     subst this
     exact n4 y' l1
   ·have hs := n5.get.2 i (by omega) (by omega)
    obtain ⟨p1, p2⟩ := q5 i (by omega)
    have hlr := hs.get.1
    simp only [renRows_map, List.getElem_map, List.length_map] at hs hlr
    refine ⟨by rw [← hlr, ← n2]; exact p1, fun i' hi' => ?_⟩
    have hv := (hs.get.2 i' (by omega) (by simpa using hi')).rep hpr (p2 i' (by omega))
    rw [List.getElem_map] at hv
    have := RepV.unren _ hv
    rw [← n2]
    exact this.reid (refs1 hl' hd' hrH' j y hj _ (List.getElem_mem hi) _ (List.getElem_mem hi')) back
  ·obtain ⟨z, m, n1, _, n3, _, _, n6⟩ := stay j y l1
   obtain ⟨z', m', n1', _, n3', _, _, n6'⟩ := stay j' y' l2
   have := h2.heap.inj m m' _ _ b n1 n1' (by rw [← n3]; exact l3) (by rw [← n3']; exact l4)
   omega
  ·rcases hb with hb | hb
   ·exact h2.heap.lt b hb
   ·exact hpr.owns_lt hb
  ·exact (RepV.unren _ (k1.rep hpr k2)).reid hrV back
 cases e with
 | normal => obtain ⟨k1, c, k2, k3⟩ := fin (by simpa [retQ, Later_apply] using h1); exact ⟨k1, c, k2, k3⟩
 | ret => obtain ⟨k1, c, k2, k3⟩ := fin (by simpa [retQ, Later_apply] using h1); exact ⟨k1, c, k2, k3⟩
 | _ => exact h1.elim
end
theorem rng1 : List.range 1 = [0] := nrfl rfl
theorem rng2 : List.range 2 = [0, 1] := nrfl rfl
theorem rng3 : List.range 3 = [0, 1, 2] := nrfl rfl
theorem rng4 : List.range 4 = [0, 1, 2, 3] := nrfl rfl
attribute [go_sem ↓] vcL_one vcL_cons
attribute [go_sem high] renV_g refs_g inO_g kpV_g kpO_g okKO_g toRow_g rowOk_g one_g renO_g
theorem slD_u32 {x : Int} : slD u32V [x] = .sl [[.val (.int .u32 x)]] := nrfl rfl
attribute [go_sem] slD_u32
attribute [go_sem] gV_none gO_none renO_some renO_none updO_nil updO_cons privG_at endG_nil endG_cons okL_nil okL_cons sepV_ptr sepT_nil sepT_cons sepW_ptr sepW_iptr rng1 rng2 rng3 rng4
end Go.Iso
