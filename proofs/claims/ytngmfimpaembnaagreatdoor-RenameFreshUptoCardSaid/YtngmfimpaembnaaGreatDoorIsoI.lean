/- The abstract layer, part I: short steps: a state is kept by its places, and the reckoning is done where the step is taken. -/
import Derived.Test.YtngmfimpaembnaaGreatDoorIsoJ
namespace Go.Iso
open Go Go.RowKit
set_option linter.unusedSimpArgs false
set_option linter.unusedVariables false
def ixL : List Nat → Nat → Nat
  | [], _ => 0
  | a :: l, o => if o = a then 0 else ixL l o + 1
def inL : List Nat → Nat → Prop
  | [], _ => False
  | a :: l, o => if o = a then True else inL l o
def kpV (rl : List Nat) (v : V) : V := v.ren (ixL rl)
def kpR (rl : List Nat) : List V → List V
  | [] => []
  | v :: l => kpV rl v :: kpR rl l
def kpRs (rl : List Nat) : List (List V) → List (List V)
  | [] => []
  | r :: l => kpR rl r :: kpRs rl l
def kpF (rl : List Nat) (fr : Nat → V) : List Nat → List (Nat × V)
  | [] => []
  | t :: ks => (t, kpV rl (fr t)) :: kpF rl fr ks
def kpO (rl : List Nat) : Option Own → Option Own
  | none => none
  | some y => some ⟨y.k, kpRs rl y.rows⟩
def kpH (rl : List Nat) (σ : Heap) : List Nat → List (Option Own)
  | [] => []
  | o :: l => kpO rl (σ o) :: kpH rl σ l
def okKF (rl : List Nat) (fr : Nat → V) : List Nat → Prop
  | [] => True
  | t :: ks => (fr t).refs (inL rl) ∧ okKF rl fr ks
def okKRs (rl : List Nat) : List (List V) → Prop
  | [] => True
  | r :: l => V.refsL (inL rl) r ∧ okKRs rl l
def okKO (rl : List Nat) : Option Own → Prop
  | none => True
  | some y => okKRs rl y.rows
def okKH (rl : List Nat) (σ : Heap) : List Nat → Prop
  | [] => True
  | o :: l => okKO rl (σ o) ∧ okKH rl σ l
theorem ixL_nil {o : Nat} : ixL [] o = 0 := nrfl rfl
theorem ixL_cons {a o : Nat} {l : List Nat} : ixL (a :: l) o = if o = a then 0 else ixL l o + 1 := nrfl rfl
theorem inL_nil {o : Nat} : inL [] o = False := nrfl rfl
theorem inL_cons {a o : Nat} {l : List Nat} : inL (a :: l) o = if o = a then True else inL l o := nrfl rfl
theorem kpR_nil {rl : List Nat} : kpR rl [] = [] := nrfl rfl
theorem kpR_cons {rl : List Nat} {v : V} {l : List V} : kpR rl (v :: l) = kpV rl v :: kpR rl l := nrfl rfl
theorem kpRs_nil {rl : List Nat} : kpRs rl [] = [] := nrfl rfl
theorem kpRs_cons {rl : List Nat} {v : List V} {l : List (List V)} : kpRs rl (v :: l) = kpR rl v :: kpRs rl l := nrfl rfl
theorem kpF_nil {rl : List Nat} {fr : Nat → V} : kpF rl fr [] = [] := nrfl rfl
theorem kpF_cons {rl : List Nat} {fr : Nat → V} {t : Nat} {l : List Nat} : kpF rl fr (t :: l) = (t, kpV rl (fr t)) :: kpF rl fr l := nrfl rfl
theorem kpO_none {rl : List Nat} : kpO rl none = none := nrfl rfl
theorem kpO_some {rl : List Nat} {y : Own} : kpO rl (some y) = some ⟨y.k, kpRs rl y.rows⟩ := nrfl rfl
theorem kpH_nil {rl : List Nat} {σ : Heap} : kpH rl σ [] = [] := nrfl rfl
theorem kpH_cons {rl : List Nat} {σ : Heap} {t : Nat} {l : List Nat} : kpH rl σ (t :: l) = kpO rl (σ t) :: kpH rl σ l := nrfl rfl
theorem okKF_nil {rl : List Nat} {fr : Nat → V} : okKF rl fr [] = True := nrfl rfl
theorem okKF_cons {rl : List Nat} {fr : Nat → V} {t : Nat} {l : List Nat} : okKF rl fr (t :: l) = ((fr t).refs (inL rl) ∧ okKF rl fr l) := nrfl rfl
theorem okKRs_nil {rl : List Nat} : okKRs rl [] = True := nrfl rfl
theorem okKRs_cons {rl : List Nat} {v : List V} {l : List (List V)} : okKRs rl (v :: l) = (V.refsL (inL rl) v ∧ okKRs rl l) := nrfl rfl
theorem okKO_none {rl : List Nat} : okKO rl none = True := nrfl rfl
theorem okKO_some {rl : List Nat} {y : Own} : okKO rl (some y) = okKRs rl y.rows := nrfl rfl
theorem okKH_nil {rl : List Nat} {σ : Heap} : okKH rl σ [] = True := nrfl rfl
theorem okKH_cons {rl : List Nat} {σ : Heap} {t : Nat} {l : List Nat} : okKH rl σ (t :: l) = (okKO rl (σ t) ∧ okKH rl σ l) := nrfl rfl
theorem kpR_map {rl : List Nat} : ∀ l : List V, kpR rl l = l.map (kpV rl)
  | [] => rfl
  | v :: l => by rw [kpR, kpR_map l]; rfl
theorem kpV_any {rl : List Nat} : kpV rl .any = .any := by simp [kpV, V.ren]
theorem kpV_d {rl : List Nat} {x : D} : kpV rl (.d x) = .d x := by simp [kpV, V.ren]
theorem kpV_iptr {rl : List Nat} {x : List D} : kpV rl (.iptr x) = .iptr x := by simp [kpV, V.ren]
theorem kpV_ptr {rl : List Nat} {o k i j : Nat} : kpV rl (.ptr o k i j) = .ptr (ixL rl o) k i j := by simp [kpV, V.ren]
theorem kpV_msl {rl : List Nat} {o k i j : Nat} : kpV rl (.msl o k i j) = .msl (ixL rl o) k i j := by simp [kpV, V.ren]
theorem kpV_agg {rl : List Nat} {l : List V} : kpV rl (.agg l) = .agg (kpR rl l) := by rw [kpV, V.ren, V.renL_map, kpR_map]; rfl
theorem kpV_tup {rl : List Nat} {l : List V} : kpV rl (.tup l) = .tup (kpR rl l) := by rw [kpV, V.ren, V.renL_map, kpR_map]; rfl
theorem kpV_fn {rl : List Nat} {f : FuncId} {l : List V} : kpV rl (.fn f l) = .fn f (kpR rl l) := by rw [kpV, V.ren, V.renL_map, kpR_map]; rfl
theorem kpV_nilV {α : Type} {f : α → List D} {o : Option (List α)} {rl : List Nat} : kpV rl (nilV f o) = nilV f o := by cases o <;> simp [nilV, kpV_d]
theorem ixL_in {o : Nat} : ∀ {rl : List Nat}, inL rl o → rl.getD (ixL rl o) 0 = o ∧ ixL rl o < rl.length
  | [], h => h.elim
  | a :: l, h => by
    rw [inL_cons] at h
    rw [ixL_cons]
    by_cases e : o = a
    · rw [if_pos e]; exact ⟨by simp [e], by simp⟩
    · rw [if_neg e] at h ⊢
      obtain ⟨h1, h2⟩ := ixL_in h
      exact ⟨by simpa using h1, by simp; exact h2⟩
mutual
theorem kp_ok {rl : List Nat} : ∀ v : V, v.refs (inL rl) → renV rl (kpV rl v) = v ∧ (kpV rl v).refs (· < rl.length)
  | .any, _ => by rw [kpV_any]; exact ⟨renV_any, by simp [V.refs]⟩
  | .d x, _ => by rw [kpV_d]; exact ⟨renV_d, by simp [V.refs]⟩
  | .iptr x, _ => by rw [kpV_iptr]; exact ⟨renV_iptr, by simp [V.refs]⟩
  | .ptr o k i j, h => by
    obtain ⟨h1, h2⟩ := ixL_in (rl := rl) (o := o) (by simpa [V.refs] using h)
    rw [kpV_ptr, renV_ptr, h1]; exact ⟨rfl, by simpa [V.refs] using h2⟩
  | .msl o k i j, h => by
    obtain ⟨h1, h2⟩ := ixL_in (rl := rl) (o := o) (by simpa [V.refs] using h)
    rw [kpV_msl, renV_msl, h1]; exact ⟨rfl, by simpa [V.refs] using h2⟩
  | .agg cs, h => by
    obtain ⟨h1, h2⟩ := kp_okL cs (by simpa [V.refs] using h)
    rw [kpV_agg, renV_agg, h1]; exact ⟨rfl, by simpa [V.refs] using h2⟩
  | .tup cs, h => by
    obtain ⟨h1, h2⟩ := kp_okL cs (by simpa [V.refs] using h)
    rw [kpV_tup, renV_tup, h1]; exact ⟨rfl, by simpa [V.refs] using h2⟩
  | .fn f cs, h => by
    obtain ⟨h1, h2⟩ := kp_okL cs (by simpa [V.refs] using h)
    rw [kpV_fn, renV_fn, h1]; exact ⟨rfl, by simpa [V.refs] using h2⟩
theorem kp_okL {rl : List Nat} : ∀ l : List V, V.refsL (inL rl) l → renRow rl (kpR rl l) = l ∧ V.refsL (· < rl.length) (kpR rl l)
  | [], _ => ⟨rfl, by simp [kpR, V.refsL]⟩
  | v :: l, h => by
    have h : v.refs (inL rl) ∧ V.refsL (inL rl) l := by simpa [V.refsL] using h
    obtain ⟨h1, h2⟩ := kp_ok v h.1
    obtain ⟨k1, k2⟩ := kp_okL l h.2
    rw [kpR_cons, renRow, h1, k1]
    exact ⟨rfl, by simpa [V.refsL] using ⟨h2, k2⟩⟩
end
theorem kp_okRs {rl : List Nat} : ∀ l : List (List V), okKRs rl l → renRows rl (kpRs rl l) = l ∧ okRows rl.length (kpRs rl l)
  | [], _ => ⟨rfl, fun r h => (by cases h)⟩
  | r :: l, h => by
    obtain ⟨h1, h2⟩ := kp_okL r h.1
    obtain ⟨k1, k2⟩ := kp_okRs l h.2
    rw [kpRs_cons, renRows, h1, k1]
    refine ⟨rfl, fun x hx => ?_⟩
    rcases List.mem_cons.1 hx with rfl | hx
    · intro v hv
      obtain ⟨i, hi, rfl⟩ := List.getElem_of_mem hv
      exact V.refsL_get h2 i hi
    · exact k2 x hx
theorem kpH_len {rl : List Nat} {σ : Heap} : ∀ l : List Nat, (kpH rl σ l).length = l.length
  | [] => rfl
  | o :: l => by rw [kpH_cons, List.length_cons, kpH_len l, List.length_cons]
section
variable {P : Program} {N B : Nat} {Q : Exit → St → Prop} {st : St} {σ : Heap} {fr : Nat → V}
theorem kp_F {rl : List Nat} : ∀ ks : List Nat, okKF rl fr ks → okR rl rl.length fr (kpF rl fr ks)
  | [], _ => trivial
  | t :: ks, h => ⟨(kp_ok _ h.1).1.symm, (kp_ok _ h.1).2, kp_F ks h.2⟩
theorem kp_H {rl : List Nat} : ∀ l : List Nat, okKH rl σ l → inR rl rl.length σ l (kpH rl σ l)
  | [], _ => trivial
  | o :: l, h => by
    refine ⟨fun y hy => ?_, kp_H l h.2⟩
    have h1 := h.1
    revert hy h1
    cases hσ : σ o with
    | none => intro hy; cases hy
    | some x =>
      intro hy h1
      obtain rfl := Option.some.inj hy
      obtain ⟨k1, k2⟩ := kp_okRs x.rows h1
      rw [k1]; exact ⟨rfl, k2⟩
theorem kp_round {rl ks : List Nat} (h : rl.Nodup ∧ rangeB rl B ∧ B ≤ rl.length ∧ okKF rl st.fr ks ∧ okKH rl st.σ rl) : RoundC B rl st (kpF rl st.fr ks) (kpH rl st.σ rl) :=
  ⟨h.1, h.2.1, by rw [kpH_len]; exact h.2.2.1, by rw [kpH_len]; exact kp_F ks h.2.2.2.1, by rw [kpH_len]; exact kp_H rl h.2.2.2.2⟩
attribute [go_sem] ixL_nil ixL_cons inL_nil inL_cons kpR_nil kpR_cons kpRs_nil kpRs_cons
attribute [go_sem] kpF_nil kpF_cons kpO_none kpO_some kpH_nil kpH_cons okKF_nil okKF_cons
attribute [go_sem] okKRs_nil okKRs_cons okKO_none okKO_some okKH_nil okKH_cons
attribute [go_sem] kpV_any kpV_d kpV_iptr kpV_ptr kpV_msl kpV_agg kpV_tup kpV_fn kpV_nilV
theorem AW.kp [Glb] {c : Code} {l : List (Nat × V)} {h : List (Option Own)} (rl ks : List Nat) (k : AW P N B c Q (mkR l h))
    (hr : (rl.Nodup ∧ rangeB rl B ∧ B ≤ rl.length ∧ okKF rl st.fr ks ∧ okKH rl st.σ rl) ∧ kpF rl st.fr ks = l ∧ kpH rl st.σ rl = h := by (simp only [go_sem, Nat.reduceEqDiff, Nat.reduceAdd, Nat.reduceSub, Nat.reduceMul, Nat.reduceLeDiff, Nat.reduceLT, Nat.reduceBEq, reduceIte]; exact ⟨rfl, rfl⟩)) : AW P N B c Q st := by
  obtain ⟨h1, rfl, rfl⟩ := hr
  exact AW.round (kp_round h1) k
theorem AW.cu [Glb] {c : Code} (rl : List Nat) (l : List (Nat × V)) (h : List (Option Own)) (k : AW P N B c Q (mkR l h)) (hr : RoundC B rl st l h := by (simp only [go_sem, Nat.reduceEqDiff, Nat.reduceAdd, Nat.reduceSub, Nat.reduceMul, Nat.reduceLeDiff, Nat.reduceLT, Nat.reduceBEq, reduceIte])) : AW P N B c Q st := AW.round hr k
theorem nz {p q : Prop} (k : q) (e : p = q := by ((try simp only [go_sem, Nat.reduceEqDiff, Nat.reduceAdd, Nat.reduceSub, Nat.reduceMul, Nat.reduceLeDiff, Nat.reduceLT, Nat.reduceBEq, reduceIte]); exact rfl)) : p := e ▸ k
theorem nx {p q : Prop} (k : p) (e : p = q := by ((try simp only [NodeA.enc_eta, RatA.enc_eta, NodeA.op_mk, NodeA.name_mk, NodeA.num_mk, NodeA.kids_mk, aggV, i64V, u32V, strV, List.map_cons, List.map_nil]); exact rfl)) : q := e ▸ k
theorem AW.op [Glb] (hm : P.follows .mixedOrders = true) {id n : Nat} {l : List Oper} {dr : Bool} {y : Code} {G : Prop} (k : G) (hok : okB N (.region id l.toArray dr) = true := by kernel_rfl)
    (e : numK (n + l.length) (Later (Hold fun M => vcOps P dr n M l.toArray l 0 fr σ (Later (Hold fun fr σ => thenQ (fun s => AW P N B y Q s) Q .normal ⟨fr, σ, M⟩)))) = G := by ((try simp only [go_sem, Nat.reduceEqDiff, Nat.reduceAdd, Nat.reduceSub, Nat.reduceMul, Nat.reduceLeDiff, Nat.reduceLT, Nat.reduceBEq, reduceIte]); exact rfl)) : AW P N B (.seq (.region id l.toArray dr) y) Q ⟨fr, σ, n⟩ :=
  AW.one (AW.reg hm hok (e ▸ k))
theorem AW.rg [Glb] (hm : P.follows .mixedOrders = true) {id n : Nat} {l : List Oper} {dr : Bool} {G : Prop} (k : G) (hok : okB N (.region id l.toArray dr) = true := by kernel_rfl)
    (e : numK (n + l.length) (Later (Hold fun M => vcOps P dr n M l.toArray l 0 fr σ (Later (Hold fun fr σ => Q .normal ⟨fr, σ, M⟩)))) = G := by ((try simp only [go_sem, Nat.reduceEqDiff, Nat.reduceAdd, Nat.reduceSub, Nat.reduceMul, Nat.reduceLeDiff, Nat.reduceLT, Nat.reduceBEq, reduceIte]); exact rfl)) : AW P N B (.region id l.toArray dr) Q ⟨fr, σ, n⟩ :=
  AW.reg hm hok (e ▸ k)
theorem AW.sk [Glb] {G : Prop} (k : G) (e : Q .normal st = G := by ((try simp only [go_sem, Nat.reduceEqDiff, Nat.reduceAdd, Nat.reduceSub, Nat.reduceMul, Nat.reduceLeDiff, Nat.reduceLT, Nat.reduceBEq, reduceIte]); exact rfl)) : AW P N B .skip Q st := AW.skip (e ▸ k)
theorem AW.ex [Glb] {id : Nat} {G : Prop} (k : G) (e : Q (.exit id) st = G := by ((try simp only [go_sem, Nat.reduceEqDiff, Nat.reduceAdd, Nat.reduceSub, Nat.reduceMul, Nat.reduceLeDiff, Nat.reduceLT, Nat.reduceBEq, reduceIte]); exact rfl)) : AW P N B (.exit id) Q st := AW.exit (e ▸ k)
theorem AW.ts [Glb] {c : Operand} {x y : Code} (t : Bool) (h1 : t = true → AW P N B x Q st) (h2 : t = false → AW P N B y Q st) (hc : evO st.fr c = .d (.val (.bool t)) := by (simp only [go_sem, Nat.reduceEqDiff, Nat.reduceAdd, Nat.reduceSub, Nat.reduceMul, Nat.reduceLeDiff, Nat.reduceLT, Nat.reduceBEq, reduceIte])) : AW P N B (.cond c x y) Q st := AW.cond hc h1 h2
theorem callP [Glb] {f : FuncId} {caps args : List V} {v : V} {L : V → Heap → Prop} {id : Nat} {G : Prop} (h : Cn P f (args ++ caps) v) (k : G)
    (hr : V.refsL NoRef (args ++ caps) := by (simp only [go_sem, Nat.reduceEqDiff, Nat.reduceAdd, Nat.reduceSub, Nat.reduceMul, Nat.reduceLeDiff, Nat.reduceLT, Nat.reduceBEq, reduceIte]))
    (e : L v σ = G := by ((try simp only [go_sem, Nat.reduceEqDiff, Nat.reduceAdd, Nat.reduceSub, Nat.reduceMul, Nat.reduceLeDiff, Nat.reduceLT, Nat.reduceBEq, reduceIte]); exact rfl)) : callK P (.fn f caps) args σ N id L := callK_pure h hr (e ▸ k)
theorem callD [Glb] {f : FuncId} {caps args : List V} {v : V} {K : V → Prop} {G : Prop} (h : Cn P f (args ++ caps) v) (k : G)
    (hr : V.refsL NoRef (args ++ caps) := by (simp only [go_sem, Nat.reduceEqDiff, Nat.reduceAdd, Nat.reduceSub, Nat.reduceMul, Nat.reduceLeDiff, Nat.reduceLT, Nat.reduceBEq, reduceIte]))
    (e : K v = G := by ((try simp only [go_sem, Nat.reduceEqDiff, Nat.reduceAdd, Nat.reduceSub, Nat.reduceMul, Nat.reduceLeDiff, Nat.reduceLT, Nat.reduceBEq, reduceIte]); exact rfl)) : pcallK P σ (.fn f caps) args K := pcallK_intro h hr (e ▸ k)
theorem JoinQ.ar {S : Type} {l : S → List (Nat × V)} {h : S → List (Option Own)} {J : S → Prop} {s : St} (a : S) (rl : List Nat) (hj : J a) (hr : RoundC B rl s (l a) (h a) := by (simp only [go_sem, Nat.reduceEqDiff, Nat.reduceAdd, Nat.reduceSub, Nat.reduceMul, Nat.reduceLeDiff, Nat.reduceLT, Nat.reduceBEq, reduceIte])) : JoinQ B l h J s := JoinQ.mk a rl hj hr
theorem NextQ.ar {S R : Type} {l : S → List (Nat × V)} {h : S → List (Option Own)} {F : S → Option R} {o : R} {s : St} (a : S) (rl : List Nat) (hj : F a = some o) (hr : RoundC B rl s (l a) (h a) := by (simp only [go_sem, Nat.reduceEqDiff, Nat.reduceAdd, Nat.reduceSub, Nat.reduceMul, Nat.reduceLeDiff, Nat.reduceLT, Nat.reduceBEq, reduceIte])) : NextQ B l h F o s := NextQ.mk a rl hj hr
end
end Go.Iso
