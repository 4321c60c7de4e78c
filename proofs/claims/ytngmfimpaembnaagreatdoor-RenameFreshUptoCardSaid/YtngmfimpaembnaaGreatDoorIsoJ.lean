/- The abstract layer, part J: models of functions (an optional answer), and the walk piece by piece, with cuts. -/
import Derived.Test.YtngmfimpaembnaaGreatDoorIsoR
namespace Go.Iso
open Go Go.RowKit
set_option linter.unusedSimpArgs false
set_option linter.unusedVariables false
def iter {S R : Type} : Nat → ((S → Option R) → S → Option R) → S → Option R
  | 0, _, _ => none
  | k + 1, f, s => f (iter k f) s
theorem iter_succ {S R : Type} {k : Nat} {f : (S → Option R) → S → Option R} {s : S} : iter (k + 1) f s = f (iter k f) s := nrfl rfl
def idx {α : Type} (l : List α) (z : Int) : Option α := if 0 ≤ z then l[z.toNat]? else none
theorem idx_some {α : Type} {l : List α} {z : Int} {x : α} (h : idx l z = some x) : 0 ≤ z ∧ l[z.toNat]? = some x := by
  unfold idx at h; split at h
  · next h0 => exact ⟨h0, h⟩
  · cases h
theorem idx_nat {α : Type} {l : List α} {k : Nat} : idx l (k : Int) = l[k]? := by simp [idx]
theorem obind {α β : Type} {o : Option α} {f : α → Option β} {r : β} (h : o.bind f = some r) : ∃ x, o = some x ∧ f x = some r := by
  cases o with
  | none => cases h
  | some x => exact ⟨x, rfl, h⟩
theorem obindE {α β : Type} {o : Option α} {f : α → Option β} {r : β} {C : Prop} (h : o.bind f = some r) (k : ∀ x, o = some x → f x = some r → C) : C :=
  let ⟨x, h1, h2⟩ := obind h; k x h1 h2
inductive Out (S R : Type) where
  | go (s : S)
  | out (r : R)
def Out.fin {S R : Type} (f : S → Option R) : Out S R → Option R
  | .go s => f s
  | .out r => some r
theorem Out.fin_go {S R : Type} {f : S → Option R} {s : S} : Out.fin f (.go s) = f s := nrfl rfl
theorem Out.fin_out {S R : Type} {f : S → Option R} {r : R} : Out.fin f (.out r) = some r := nrfl rfl
def outM {S R : Type} (e : Option R) : Option (Out S R) := e.map .out
theorem outM_some {S R : Type} {e : Option R} {o : Out S R} (h : outM e = some o) : ∃ r, e = some r ∧ o = .out r := by
  cases e with
  | none => cases h
  | some r => exact ⟨r, rfl, (Option.some.inj h).symm⟩
def appO {α : Type} (byt : Nat) (l r : List α) : Option (List α) := if (2 * (l.length + r.length) + 1000) * byt ≤ 2 ^ 48 then some (l ++ r) else none
theorem appO_some {α : Type} {byt : Nat} {l r x : List α} (h : appO byt l r = some x) : (2 * (l.length + r.length) + 1000) * byt ≤ 2 ^ 48 ∧ x = l ++ r := by
  unfold appO at h; split at h
  · next h1 => exact ⟨h1, (Option.some.inj h).symm⟩
  · cases h
def must (b : Bool) : Option Unit := if b then some () else none
theorem must_some {b : Bool} {u : Unit} (h : must b = some u) : b = true := by
  cases b with
  | true => rfl
  | false => cases h
section
variable {P : Program} {N B : Nat} {Q : Exit → St → Prop} {st : St} {α : Type} {σ : Heap}
/-! ### Sealing on the way -/
def keepH (ds : List Nat) (σ : Heap) : Heap := fun o => if o ∈ ds then σ o else none
def dropH (ds : List Nat) (σ : Heap) : Heap := fun o => if o ∈ ds then none else σ o
def putL (fr : Nat → V) : List (Nat × V) → Nat → V
  | [], t => fr t
  | (s, v) :: l, t => if t = s then v else putL fr l t
def sealL (τ : Heap) (fr : Nat → V) : List (Nat × V) → Prop
  | [] => True
  | (s, v) :: l => SealV τ (fr s) v ∧ sealL τ fr l
theorem keepH_at {ds : List Nat} {o : Nat} : keepH ds σ o = if o ∈ ds then σ o else none := nrfl rfl
theorem dropH_at {ds : List Nat} {o : Nat} : dropH ds σ o = if o ∈ ds then none else σ o := nrfl rfl
theorem putL_nil {fr : Nat → V} {t : Nat} : putL fr [] t = fr t := nrfl rfl
theorem putL_cons {fr : Nat → V} {s t : Nat} {v : V} {l : List (Nat × V)} : putL fr ((s, v) :: l) t = if t = s then v else putL fr l t := nrfl rfl
theorem sealL_nil {τ : Heap} {fr : Nat → V} : sealL τ fr [] = True := nrfl rfl
theorem sealL_cons {τ : Heap} {fr : Nat → V} {s : Nat} {v : V} {l : List (Nat × V)} : sealL τ fr ((s, v) :: l) = (SealV τ (fr s) v ∧ sealL τ fr l) := nrfl rfl
theorem sealL_get [Glb] {τ : Heap} {fr : Nat → V} {ρ : Nat → Option Nat} {I : Nat → Prop} {w : World} (hh : HeapOk τ ρ I w) : ∀ {l : List (Nat × V)}, sealL τ fr l → ∀ t {c : Value}, RepV ρ I w (fr t) c → RepV ρ (fun b => I b ∨ Owns τ ρ b) w (putL fr l t) c
  | [], _, t, c, hr => hr.mono (fun _ _ h => h) (fun _ h => .inl h) (fun _ _ => rfl) (fun _ c _ h => ⟨c, h, rfl⟩)
  | (s, v) :: l, h, t, c, hr => by
    unfold sealL at h
    rw [putL_cons]; split
    · next e => subst e; exact h.1.rep hh hr
    · exact sealL_get hh h.2 t hr
def putH (σ : Heap) : List (Nat × Own) → Heap
  | [], o => σ o
  | (s, x) :: l, o => if o = s then some x else putH σ l o
def sealH (τ σ : Heap) : List (Nat × Own) → Prop
  | [] => True
  | (s, x) :: l => optK (σ s) (Later (Hold fun y => y.k = x.k ∧ SealRows τ y.rows x.rows)) ∧ sealH τ σ l
theorem putH_nil {o : Nat} : putH σ [] o = σ o := nrfl rfl
theorem putH_cons {s o : Nat} {x : Own} {l : List (Nat × Own)} : putH σ ((s, x) :: l) o = if o = s then some x else putH σ l o := nrfl rfl
theorem sealH_nil {τ : Heap} : sealH τ σ [] = True := nrfl rfl
theorem sealH_cons {τ : Heap} {s : Nat} {x : Own} {l : List (Nat × Own)} : sealH τ σ ((s, x) :: l) = (optK (σ s) (Later (Hold fun y => y.k = x.k ∧ SealRows τ y.rows x.rows)) ∧ sealH τ σ l) := nrfl rfl
theorem putH_get {τ : Heap} : ∀ {l : List (Nat × Own)}, sealH τ σ l → ∀ o x, putH σ l o = some x → σ o = some x ∨ ∃ y, σ o = some y ∧ y.k = x.k ∧ SealRows τ y.rows x.rows
  | [], _, o, x, h => .inl h
  | (s, z) :: l, hs, o, x, h => by
    unfold sealH at hs
    rw [putH_cons] at h
    split at h
    · next e =>
      subst e; cases h
      obtain ⟨y, h1, h2⟩ := optK_some hs.1
      rw [Later_apply] at h2
      exact .inr ⟨y, h1, h2⟩
    · exact putH_get hs.2 o x h
def sealSt (ds : List Nat) (l : List (Nat × V)) (hl : List (Nat × Own)) (st : St) : St := ⟨putL st.fr l, dropH ds (putH st.σ hl), st.n⟩
theorem Conc.sealed [Glb] {ds : List Nat} {l : List (Nat × V)} {hl : List (Nat × Own)} {ρ : Nat → Option Nat} {I : Nat → Prop} {a : Act} {w : World} (hc : Conc N B st ρ I a w) (hs : sealL (keepH ds st.σ) st.fr l) (hh : sealH (keepH ds st.σ) st.σ hl) :
    Conc N B (sealSt ds l hl st) ρ (fun b => I b ∨ Owns (keepH ds st.σ) ρ b) a w ∧ Frame B st.σ ρ I w (sealSt ds l hl st).σ ρ (fun b => I b ∨ Owns (keepH ds st.σ) ρ b) w := by
  have kp : ∀ o x, keepH ds st.σ o = some x → o ∈ ds ∧ st.σ o = some x := fun o x h => by
    unfold keepH at h; split at h
    · next h1 => exact ⟨h1, h⟩
    · cases h
  have dp : ∀ o x, dropH ds (putH st.σ hl) o = some x → o ∉ ds ∧ putH st.σ hl o = some x := fun o x h => by
    unfold dropH at h; split at h
    · cases h
    · next h1 => exact ⟨h1, h⟩
  have src : ∀ o x, dropH ds (putH st.σ hl) o = some x → ∃ y, st.σ o = some y := fun o x h => by
    rcases putH_get hh o x (dp o x h).2 with h | ⟨y, h, _⟩
    · exact ⟨x, h⟩
    · exact ⟨y, h⟩
  have hk : HeapOk (keepH ds st.σ) ρ I w := hc.heap.forget fun o x h => (kp o x h).2
  have hlt : ∀ b, (I b ∨ Owns (keepH ds st.σ) ρ b) → b < w.heap.size := fun b hb => hb.elim (hc.heap.lt b) fun h => hk.owns_lt h
  have notI : ∀ o y b, o ∉ ds → st.σ o = some y → ρ o = some b → ¬ I b → ¬ (I b ∨ Owns (keepH ds st.σ) ρ b) := by
    rintro o y b h1 h2 h3 h4 (hb | ⟨o', x', l1, l2⟩)
    · exact h4 hb
    · obtain ⟨m1, m2⟩ := kp o' x' l1
      exact h1 (hc.heap.inj o o' _ _ b h2 m2 h3 l2 ▸ m1)
  have up : ∀ {v : V} {c : Value}, RepV ρ I w v c → RepV ρ (fun b => I b ∨ Owns (keepH ds st.σ) ρ b) w v c := fun h => h.mono (fun _ _ h => h) (fun _ h => .inl h) (fun _ _ => rfl) (fun _ c _ h => ⟨c, h, rfl⟩)
  refine ⟨⟨⟨fun o x ho => ?_, fun o o' x x' b h1 h2 h3 h4 => ?_, hc.heap.base.up (fun _ h => .inl h) hlt⟩, hc.fresh, fun t => sealL_get hk hs t (hc.frame t), hc.defers, hc.size, hc.base⟩, ⟨?_, fun _ _ => rfl⟩⟩
  · obtain ⟨h1, h2⟩ := dp o x ho
    rcases putH_get hh o x h2 with h2 | ⟨y, h2, h3, h4⟩
    · obtain ⟨b, c, e, k1, k2, k3, k4, k5⟩ := hc.heap.own o x h2
      exact ⟨b, c, e, k1, k2, k3, notI o x b h1 h2 k1 k4, fun i hi => ⟨(k5 i hi).1, fun j hj => up ((k5 i hi).2 j hj)⟩⟩
    · obtain ⟨b, c, e, k1, k2, k3, k4, k5⟩ := hc.heap.own o y h2
      have hg := h4.get
      refine ⟨b, c, e, k1, k2, by rw [← hg.1, ← h3]; exact k3, notI o y b h1 h2 k1 k4, fun i hi => ?_⟩
      have hi' : i < y.rows.length := by rw [hg.1]; exact hi
      have hs := (hg.2 i hi' hi).get
      obtain ⟨q1, q2⟩ := k5 i hi'
      refine ⟨by rw [← hs.1, ← h3]; exact q1, fun j hj => ?_⟩
      have hj' : j < y.rows[i].length := by rw [hs.1]; exact hj
      have := (hs.2 j hj' hj).rep hk (q2 j hj')
      rw [← h3]; exact this
  · obtain ⟨y, l1⟩ := src o x h1
    obtain ⟨y', l2⟩ := src o' x' h2
    exact hc.heap.inj o o' _ _ b l1 l2 h3 h4
  · refine ⟨rfl, rfl, rfl, Nat.le_refl _, fun _ _ _ => rfl, fun _ c _ h => ⟨c, h, rfl⟩, fun b ⟨o, x, h1, h2⟩ => ?_, fun _ h => .inl h, fun b hb => ?_⟩
    · obtain ⟨y, l1⟩ := src o x h1
      exact .inl ⟨o, y, l1, h2⟩
    · rcases hb with h | ⟨o, x, h1, h2⟩
      · exact .inl h
      · exact .inr (.inl ⟨o, x, (kp o x h1).2, h2⟩)
def SealSt (st st' : St) : Prop := st' = st ∨ ∃ ds l hl, sealL (keepH ds st.σ) st.fr l ∧ sealH (keepH ds st.σ) st.σ hl ∧ st' = sealSt ds l hl st
theorem Conc.sealSt [Glb] {st' : St} {ρ : Nat → Option Nat} {I : Nat → Prop} {a : Act} {w : World} (hc : Conc N B st ρ I a w) (h : SealSt st st') : ∃ I', Conc N B st' ρ I' a w ∧ Frame B st.σ ρ I w st'.σ ρ I' w := by
  rcases h with rfl | ⟨ds, l, hl, h1, h2, rfl⟩
  · exact ⟨I, hc, Frame.refl⟩
  · exact ⟨_, hc.sealed h1 h2⟩
def JoinQ {S : Type} (B : Nat) (l : S → List (Nat × V)) (h : S → List (Option Own)) (J : S → Prop) (s : St) : Prop := ∃ s' a rl, SealSt s s' ∧ J a ∧ RoundC B rl s' (l a) (h a)
theorem JoinQ.mk {S : Type} {l : S → List (Nat × V)} {h : S → List (Option Own)} {J : S → Prop} {s : St} (a : S) (rl : List Nat) (hj : J a) (hr : RoundC B rl s (l a) (h a)) : JoinQ B l h J s := ⟨s, a, rl, .inl rfl, hj, hr⟩
theorem JoinQ.mkS {S : Type} {l : S → List (Nat × V)} {h : S → List (Option Own)} {J : S → Prop} {fr : Nat → V} {n : Nat} (a : S) (rl ds : List Nat) (sl : List (Nat × V)) (hl : List (Nat × Own)) (hj : J a) (hs : sealL (keepH ds σ) fr sl) (hh : sealH (keepH ds σ) σ hl) (hr : RoundC B rl ⟨putL fr sl, dropH ds (putH σ hl), n⟩ (l a) (h a)) : JoinQ B l h J ⟨fr, σ, n⟩ := ⟨_, a, rl, .inr ⟨ds, sl, hl, hs, hh, rfl⟩, hj, hr⟩
theorem AW.join [Glb] {S : Type} {x : Code} (l : S → List (Nat × V)) (h : S → List (Option Own)) (J : S → Prop) (h1 : AW P N B x (thenQ (JoinQ B l h J) Q) st) (h2 : ∀ s, J s → Q .normal (mkR (l s) (h s))) : AW P N B x Q st := by
  intro ρ I a w hc
  refine wp_mono (h1 ρ I a w hc) ?_
  rintro e a' w' ⟨st', ρ', I', k1, k2, k3⟩
  cases e with
  | normal =>
    obtain ⟨s', y, rl, l0, l1, l3⟩ := k1
    obtain ⟨I2, n1, n2⟩ := k2.sealSt l0
    obtain ⟨m1, m2⟩ := n1.round l3
    exact ⟨_, _, I2, h2 y l1, m1, k3.trans (n2.trans (Frame.round l3 m2))⟩
  | _ => exact ⟨st', ρ', I', k1, k2, k3⟩
def NextQ {S R : Type} (B : Nat) (l : S → List (Nat × V)) (h : S → List (Option Own)) (F : S → Option R) (o : R) (s : St) : Prop := ∃ s' a rl, SealSt s s' ∧ F a = some o ∧ RoundC B rl s' (l a) (h a)
theorem NextQ.mk {S R : Type} {l : S → List (Nat × V)} {h : S → List (Option Own)} {F : S → Option R} {o : R} {s : St} (a : S) (rl : List Nat) (hj : F a = some o) (hr : RoundC B rl s (l a) (h a)) : NextQ B l h F o s := ⟨s, a, rl, .inl rfl, hj, hr⟩
theorem NextQ.mkS {S R : Type} {l : S → List (Nat × V)} {h : S → List (Option Own)} {F : S → Option R} {o : R} {fr : Nat → V} {n : Nat} (a : S) (rl ds : List Nat) (sl : List (Nat × V)) (hl : List (Nat × Own)) (hj : F a = some o) (hs : sealL (keepH ds σ) fr sl) (hh : sealH (keepH ds σ) σ hl) (hr : RoundC B rl ⟨putL fr sl, dropH ds (putH σ hl), n⟩ (l a) (h a)) : NextQ B l h F o ⟨fr, σ, n⟩ := ⟨_, a, rl, .inr ⟨ds, sl, hl, hs, hh, rfl⟩, hj, hr⟩
theorem AW.iter [Glb] {S R : Type} {c : Code} (l : S → List (Nat × V)) (h : S → List (Option Own)) {f : (S → Option R) → S → Option R} {o : R} {k : Nat} {s0 : S} (rl0 : List Nat) (h0 : iter k f s0 = some o) (h1 : RoundC B rl0 st (l s0) (h s0))
    (hr : ∀ (g : S → Option R) s, f g s = some o → AW P N B c (thenQ (NextQ B l h g o) Q) (mkR (l s) (h s))) : AW P N B (.loop c) Q st := by
  refine AW.round h1 (AW.loop (fun m s => ∃ x, Iso.iter m f x = some o ∧ s = mkR (l x) (h x)) (m := k) ⟨s0, h0, rfl⟩ ?_)
  rintro m s ⟨x, hx, rfl⟩
  cases m with
  | zero => cases hx
  | succ m =>
    rw [iter_succ] at hx
    intro ρ I a w hc
    refine wp_mono (hr _ x hx ρ I a w hc) ?_
    rintro e a' w' ⟨st', ρ', I', k1, k2, k3⟩
    cases e with
    | normal =>
      obtain ⟨s', y, rl, l0, l2, l3⟩ := k1
      obtain ⟨I2, n1, n2⟩ := k2.sealSt l0
      obtain ⟨m1, m2⟩ := n1.round l3
      exact ⟨_, _, I2, ⟨m, Nat.lt_succ_self m, y, l2, rfl⟩, m1, k3.trans (n2.trans (Frame.round l3 m2))⟩
    | _ => exact ⟨st', ρ', I', k1, k2, k3⟩
theorem AW.reg [Glb] (hm : P.follows .mixedOrders = true) {id n : Nat} {l : List Oper} {dr : Bool} {fr : Nat → V} (hok : okB N (.region id l.toArray dr) = true)
    (h : numK (n + l.length) (Later (Hold fun M => vcOps P dr n M l.toArray l 0 fr σ (Later (Hold fun fr σ => Q .normal ⟨fr, σ, M⟩))))) : AW P N B (.region id l.toArray dr) Q ⟨fr, σ, n⟩ :=
  AW.region hm hok (by simpa [numK, Later] using h)
theorem AW.test [Glb] {c : Operand} {x y : Code} {t : Bool} (hc : evO st.fr c = .d (.val (.bool t))) (h1 : t = true → AW P N B x Q st) (h2 : t = false → AW P N B y Q st) : AW P N B (.cond c x y) Q st := AW.cond hc h1 h2
theorem AW.one [Glb] {x y : Code} (h : AW P N B x (thenQ (fun s => AW P N B y Q s) Q) st) : AW P N B (.seq x y) Q st := AW.seq h
theorem AW.cut [Glb] {c : Code} (rl : List Nat) (l : List (Nat × V)) (h : List (Option Own)) (hr : RoundC B rl st l h) (k : AW P N B c Q (mkR l h)) : AW P N B c Q st := AW.round hr k
theorem AW.sealed [Glb] {c : Code} {fr : Nat → V} {n : Nat} (ds : List Nat) (sl : List (Nat × V)) (hl : List (Nat × Own)) (hs : sealL (keepH ds σ) fr sl) (hh : sealH (keepH ds σ) σ hl) (k : AW P N B c Q ⟨putL fr sl, dropH ds (putH σ hl), n⟩) : AW P N B c Q ⟨fr, σ, n⟩ := by
  intro ρ I a w hc
  obtain ⟨h1, h2⟩ := hc.sealed hs hh
  refine wp_mono (k _ _ a w h1) ?_
  rintro e a' w' ⟨st2, ρ', I', k1, k2, k3⟩
  exact ⟨st2, ρ', I', k1, k2, h2.trans k3⟩
theorem AW.cutS [Glb] {c : Code} {fr : Nat → V} {n : Nat} (rl ds : List Nat) (sl : List (Nat × V)) (hl : List (Nat × Own)) (l : List (Nat × V)) (h : List (Option Own)) (hs : sealL (keepH ds σ) fr sl) (hh : sealH (keepH ds σ) σ hl) (hr : RoundC B rl ⟨putL fr sl, dropH ds (putH σ hl), n⟩ l h) (k : AW P N B c Q (mkR l h)) : AW P N B c Q ⟨fr, σ, n⟩ := AW.sealed ds sl hl hs hh (AW.round hr k)
/-! ### A slice that is nil, or data -/
def nilV {α : Type} (f : α → List D) (o : Option (List α)) : V := match o with | none => .d (.val (.slice none 0 0)) | some l => slV f l
theorem nilV_none {α : Type} {f : α → List D} : nilV f none = .d (.val (.slice none 0 0)) := nrfl rfl
theorem sealNil {α : Type} {f : α → List D} {o : Option (List α)} : SealV σ (nilV f o) (slV f (o.getD [])) := by
  cases o with
  | none => exact .nil
  | some l => exact .same _
theorem refs_nilV {α : Type} {f : α → List D} {o : Option (List α)} {S : Nat → Prop} : V.refs S (nilV f o) = True := by cases o <;> simp [nilV, refs_d]
theorem renV_nilV {α : Type} {f : α → List D} {o : Option (List α)} {rl : List Nat} : renV rl (nilV f o) = nilV f o := by cases o <;> simp [nilV, renV_d]
theorem must_none {α : Type} {o : Option α} {u : Unit} (h : must o.isNone = some u) : o = none := by have := must_some h; simpa using this
theorem Cn.ofA [Glb] {f : FuncId} {fn : Func} {c : Code} {args : List V} {v : V} {N : Nat} {rs : Array ResultVar} (hm : P.follows .mixedOrders = true) (hf : P.funcs[f]? = some fn) (hb : fn.body = some c) (hc : Callable P f) (hN : fn.ntmps = N) (hr : fn.results = rs) (hn : args.length ≤ N)
    (hv : v.refs NoRef) (h : fitA args → AW P N 0 c (retQ P rs.toList (Later (Hold fun st u => SealV st.σ u v))) ⟨argF args, Heap.none, 0⟩) : Cn P f args v := by
  subst hN hr
  refine ⟨hc, fun I w cargs hlt hA => calls_of_wp hf hb ?_⟩
  have hh : HeapOk Heap.none (fun _ => none) I w := ⟨(fun o x h => by cases h), (fun o o' x x' b h => by cases h), hlt⟩
  have hcon : Conc fn.ntmps 0 ⟨argF args, Heap.none, 0⟩ (fun _ => none) I ⟨cargs ++ Array.replicate (fn.ntmps - cargs.size) undef, []⟩ w :=
    ⟨hh, fun _ _ => rfl, fun t => entry_frame hA t, rfl, by simp [hA.size]; omega, Nat.le_refl 0⟩
  refine wp_mono (h (fitA_of args _ hA.rep) _ I _ w hcon) ?_
  rintro e a' w' ⟨st', ρ', I', h1, h2, h3⟩
  have fin : resK P st' fn.results.toList (fun u => SealV st'.σ u v) → a'.defers = [] ∧ ∃ c, (results fn a'.tmps).run P w' = .ok c w' ∧ ∃ c' I'', Ending.returned c = .returned c' ∧ Pure I w I'' w' ∧ RepV (fun _ => none) I'' w' v c' := by
    intro hk
    obtain ⟨u, c, k1, k2, k3⟩ := resK_sound h2 hk
    have hno : ∀ b, ¬ Owns Heap.none (fun _ => none) b := fun b ⟨_, _, h, _⟩ => by cases h
    refine ⟨h2.defers, c, k3, c, fun b => I' b ∨ Owns st'.σ ρ' b, rfl, ⟨⟨h3.os, h3.tape, h3.output, h3.size, fun b hb => h3.kept b hb (hno b)⟩, fun b hb => .inl (h3.imm b hb), fun b hb => ?_, fun b hb => ?_⟩, ?_⟩
    · rcases hb with hb | hb
      · rcases h3.immNew b hb with h | h | h
        · exact .inl h
        · exact absurd h (hno b)
        · exact .inr h
      · rcases h3.owned b hb with h | h
        · exact absurd h (hno b)
        · exact .inr h
    · rcases hb with hb | hb
      · exact h2.heap.lt b hb
      · exact h2.heap.owns_lt hb
    · exact (k1.rep h2.heap k2).reid hv fun _ _ h => h.elim
  cases e with
  | normal => obtain ⟨k1, c, k2, k3⟩ := fin h1; exact ⟨k1, c, k2, k3⟩
  | ret => obtain ⟨k1, c, k2, k3⟩ := fin h1; exact ⟨k1, c, k2, k3⟩
  | _ => exact h1.elim
theorem Cl.ofA [Glb] {f : FuncId} {fn : Func} {c : Code} {args : List V} {h h' : List Own} {v : V} {N : Nat} {rs : Array ResultVar} (hm : P.follows .mixedOrders = true) (hf : P.funcs[f]? = some fn) (hb : fn.body = some c) (hc : Callable P f) (hN : fn.ntmps = N) (hr : fn.results = rs) (hn : args.length ≤ N)
    (hl : h'.length = h.length) (hrA : V.refsL (· < h.length) args) (hrV : v.refs (· < h.length)) (hrH : ∀ x ∈ h, okRows h.length x.rows) (hrH' : ∀ x ∈ h', okRows h.length x.rows)
    (hvc : fitA args → AW P N h.length c (retQ P rs.toList (Later (Hold fun st u => SealV (priv h.length st.σ) u v ∧ endH h.length st.σ 0 h'))) ⟨argF args, hpA h, h.length⟩) : Cl P f args h v h' := by
  subst hN hr
  refine ⟨hc, hl, hrA, hrV, hrH, fun ρ I w cargs hh hfr hA => calls_of_wp hf hb ?_⟩
  have hcon : Conc fn.ntmps h.length ⟨argF args, hpA h, h.length⟩ ρ I ⟨cargs ++ Array.replicate (fn.ntmps - cargs.size) undef, []⟩ w :=
    ⟨hh, hfr, fun t => entry_frame hA t, rfl, by simp [hA.size]; omega, Nat.le_refl _⟩
  refine wp_mono (hvc (fitA_of args _ hA.rep) _ I _ w hcon) ?_
  rintro e a' w' ⟨st', ρ', I', h1, h2, h3⟩
  have fin : resK P st' fn.results.toList (fun u => SealV (priv h.length st'.σ) u v ∧ endH h.length st'.σ 0 h') → a'.defers = [] ∧ ∃ c, (results fn a'.tmps).run P w' = .ok c w' ∧ ∃ c' I'', Ending.returned c = .returned c' ∧ Kept (hpA h) ρ I w (hpA h') ρ I'' w' ∧ HeapOk (hpA h') ρ I'' w' ∧ RepV ρ I'' w' v c' := by
    intro hk
    obtain ⟨u, c, ⟨k1, kE⟩, k2, k3⟩ := resK_sound h2 hk
    have hpr : HeapOk (priv h.length st'.σ) ρ' I' w' := h2.heap.forget fun o x ho => by
      unfold priv at ho; split at ho
      · cases ho
      · exact ho
    have pge : ∀ o x, priv h.length st'.σ o = some x → h.length ≤ o ∧ st'.σ o = some x := fun o x ho => by
      unfold priv at ho; split at ho
      · cases ho
      · exact ⟨by omega, ho⟩
    have low : ∀ o b, o < h.length → ρ' o = some b → ρ o = some b := fun o b ho hb => by rw [← h3.low o ho]; exact hb
    have stay : ∀ j (hj : j < h'.length), ∃ y, st'.σ j = some y ∧ y.k = h'[j].k ∧ SealRows (priv h.length st'.σ) y.rows h'[j].rows := fun j hj => by
      have := endH_get kE j hj; simpa using this
    refine ⟨h2.defers, c, k3, c, fun b => I' b ∨ Owns (priv h.length st'.σ) ρ' b, rfl, ⟨h3.os, h3.tape, h3.output, h3.size, h3.kept, h3.sz, fun b hb => ?_, fun b hb => .inl (h3.imm b hb), fun b hb => ?_⟩, ⟨fun o x ho => ?_, fun o o' x x' b l1 l2 l3 l4 => ?_, h2.heap.base.up (fun _ h => .inl h) fun b hb => ?_⟩, ?_⟩
    · obtain ⟨o, x, l1, l2⟩ := hb
      obtain ⟨hj, rfl⟩ := List.getElem?_eq_some_iff.1 l1
      obtain ⟨y, m1, _⟩ := stay o hj
      exact h3.owned b ⟨o, y, m1, by rw [h3.low o (by omega)]; exact l2⟩
    · rcases hb with hb | ⟨o, x, l1, l2⟩
      · exact h3.immNew b hb
      · exact (h3.owned b ⟨o, x, (pge o x l1).2, l2⟩).elim (fun h => .inr (.inl h)) (fun h => .inr (.inr h))
    · obtain ⟨hj, rfl⟩ := List.getElem?_eq_some_iff.1 ho
      obtain ⟨y, m1, m2, m3⟩ := stay o hj
      obtain ⟨b, c, e, n1, n2, n3, n4, n5⟩ := h2.heap.own o y m1
      have hlen := m3.get.1
      refine ⟨b, c, e, low o b (by omega) n1, n2, by rw [← hlen, ← m2]; exact n3, ?_, fun i hi => ?_⟩
      · rintro (hb | ⟨o', x', l1, l2⟩)
        · exact n4 hb
        · obtain ⟨p1, p2⟩ := pge o' x' l1
          have := h2.heap.inj o o' _ _ b m1 p2 n1 l2
          omega
      · have hs := m3.get.2 i (by omega) hi
        obtain ⟨q1, q2⟩ := n5 i (by omega)
        refine ⟨by rw [← hs.get.1, ← m2]; exact q1, fun j hj' => ?_⟩
        have := (hs.get.2 j (by rw [hs.get.1]; exact hj') hj').rep hpr (q2 j (by rw [hs.get.1]; exact hj'))
        rw [← m2]
        exact this.reid (hrH' _ (List.getElem_mem hj) _ (List.getElem_mem hi) _ (List.getElem_mem hj')) fun o b h1 h2 => low o b h1 h2
    · obtain ⟨hj, rfl⟩ := List.getElem?_eq_some_iff.1 l1
      obtain ⟨hj', rfl⟩ := List.getElem?_eq_some_iff.1 l2
      obtain ⟨y, m1, _⟩ := stay o hj
      obtain ⟨y', m2, _⟩ := stay o' hj'
      exact h2.heap.inj o o' _ _ b m1 m2 (by rw [h3.low o (by omega)]; exact l3) (by rw [h3.low o' (by omega)]; exact l4)
    · rcases hb with hb | hb
      · exact h2.heap.lt b hb
      · exact hpr.owns_lt hb
    · exact (k1.rep hpr k2).reid hrV fun o b h1 h2 => low o b h1 h2
  cases e with
  | normal => obtain ⟨k1, c, k2, k3⟩ := fin (by simpa [retQ, Later_apply] using h1); exact ⟨k1, c, k2, k3⟩
  | ret => obtain ⟨k1, c, k2, k3⟩ := fin (by simpa [retQ, Later_apply] using h1); exact ⟨k1, c, k2, k3⟩
  | _ => exact h1.elim
theorem accV_msl {o n : Nat} {out : List (List V)} (h : out ≠ []) : accV o n out = .msl o n 0 out.length := if_neg h
theorem lenK_acc {t e : TypeId} {K : V → Prop} {o n : Nat} {out : List (List V)} (h : elOf P t = some e) : lenK P t (accV o n out) K = K (.d (.val (.int .i64 out.length))) := by
  unfold accV; split
  · next h1 => subst h1; exact lenK_nil h
  · exact lenK_msl h
theorem sealAcc {α : Type} {f : α → List D} {xs : List α} {o n : Nat} (h : σ o = accO n ((xs.map f).map (·.map .d))) : SealV σ (accV o n ((xs.map f).map (·.map .d))) (slV f xs) := .d (.data h)
@[congr] theorem JoinQ_congr {S : Type} {l : S → List (Nat × V)} {h : S → List (Option Own)} {J : S → Prop} {s : St} : JoinQ B l h J s = JoinQ B l h J s := nrfl rfl
@[congr] theorem NextQ_congr {S R : Type} {l : S → List (Nat × V)} {h : S → List (Option Own)} {F : S → Option R} {o : R} {s : St} : NextQ B l h F o s = NextQ B l h F o s := nrfl rfl
theorem ifT {b : Bool} {x y r : Option α} (hb : b = true) (h : (if b then x else y) = r) : x = r := by subst hb; simpa using h
theorem ifF {b : Bool} {x y r : Option α} (hb : b = false) (h : (if b then x else y) = r) : y = r := by subst hb; simpa using h
theorem appD {β : Type} {n byt id : Nat} {z : List V} {sq : Bool} {f : β → List D} {r v : List β} {L : V → Heap → Prop} (hx : appO byt [] r = some v) (hsq : sq = true) (h6 : ∀ x ∈ r, (f x).length = n)
    (k : L (.d (.sl (v.map f))) σ) : appK (some (n, byt, z)) sq σ id (.d (.val (.slice none 0 0))) (.d (.sl (r.map f))) L := by
  obtain ⟨hb, rfl⟩ := appO_some hx
  refine app_data hsq (fun row hr => ?_) (by simpa using hb) (by simpa using k)
  obtain ⟨x, hx, rfl⟩ := List.mem_map.1 hr
  exact h6 x hx
theorem sealPtr {o k : Nat} {ds : List D} (ho : σ o = some ⟨k, [ds.map .d]⟩) : SealV σ (.ptr o k 0 0) (.iptr ds) := .ptr ho rfl rfl (by simp) (fun j hj hj' => by simp; exact .d _)
def NilR : List (List D) → List (List D) → Prop
  | [], [] => True
  | r :: a, s :: b => NilL r s ∧ NilR a b
  | _, _ => False
theorem NilR.get : ∀ {a b : List (List D)}, NilR a b → a.length = b.length ∧ ∀ i (hi : i < a.length) (hi' : i < b.length), NilL a[i] b[i]
  | [], [], _ => ⟨rfl, fun i hi => absurd hi (Nat.not_lt_zero i)⟩
  | r :: a, s :: b, h => by
    unfold NilR at h
    obtain ⟨h1, h2⟩ := NilR.get h.2
    refine ⟨by simp [h1], fun i hi hi' => ?_⟩
    cases i with
    | zero => exact h.1
    | succ i => exact h2 i (by simpa using hi) (by simpa using hi')
  | [], _ :: _, h => h.elim
  | _ :: _, [], h => h.elim
theorem NilD.rows {a b : List (List D)} (h : NilR a b) : NilD (.sl a) (.sl b) :=
  .sl h.get.1 (fun i hi hi' => (h.get.2 i hi hi').get.1) fun i j hi hi' hj hj' => (h.get.2 i hi hi').get.2 j hj hj'
theorem cv_int {s d : TypeId} {u : TypeDesc} {k k' : IntKind} {z : Int} (hs : P.underlying s = some u) (hd : P.underlying d = some (.int k)) : cvOf P s d (.int k' z) = some (.int k (k.wrap z)) := by
  simp [cvOf, hs, hd]
def catO (a b : ByteArray) : Option ByteArray := if ((a.size + b.size : Nat) : Int) ≤ IntKind.i64.max then some (a ++ b) else none
theorem bop_cat {t : TypeId} {a b r : ByteArray} (h : catO a b = some r) : bop P t .add (.string a) (.string b) = some (.string r) := by
  unfold catO at h; unfold bop
  split at h
  · next h1 => simp only [h1, if_true]; cases h; rfl
  · cases h
def bAnd (k : IntKind) (a b : Int) : Int := k.wrap ((BitVec.ofInt k.bits a &&& BitVec.ofInt k.bits b).toNat)
def bOr (k : IntKind) (a b : Int) : Int := k.wrap ((BitVec.ofInt k.bits a ||| BitVec.ofInt k.bits b).toNat)
def bXor (k : IntKind) (a b : Int) : Int := k.wrap ((BitVec.ofInt k.bits a ^^^ BitVec.ofInt k.bits b).toNat)
def bShr (k : IntKind) (a b : Int) : Int := a.fdiv (2 ^ (min b.toNat k.bits))
theorem bop_and {t : TypeId} {k : IntKind} {a b : Int} : bop P t .and (.int k a) (.int k b) = some (.int k (bAnd k a b)) := by simp [bop, bAnd]
theorem bop_or {t : TypeId} {k : IntKind} {a b : Int} : bop P t .or (.int k a) (.int k b) = some (.int k (bOr k a b)) := by simp [bop, bOr]
theorem bop_xor {t : TypeId} {k : IntKind} {a b : Int} : bop P t .xor (.int k a) (.int k b) = some (.int k (bXor k a b)) := by simp [bop, bXor]
theorem bop_shrO {t : TypeId} {k k' : IntKind} {a b : Int} {u : Unit} (h : must (decide (0 ≤ b)) = some u) : bop P t .shr (.int k a) (.int k' b) = some (.int k (bShr k a b)) := by
  have : 0 ≤ b := of_decide_eq_true (must_some h)
  simp [bop, bShr, this]
theorem must_ne {a : Int} {u : Unit} (h : must (a != 0) = some u) : a ≠ 0 := by have := must_some h; simpa using this
theorem inO_accD {rl : List Nat} {m o n : Nat} {xs : List (List D)} : inO rl m σ o (accO n (xs.map (·.map .d))) = (xs ≠ [] → σ o = some ⟨n, xs.map (·.map .d)⟩) := by
  rw [inO_acc, renRows_data]
  refine propext ⟨fun h k => (h (by simpa using k)).1, fun h k => ⟨h (by simpa using k), okRows_data⟩⟩
theorem accO_eq {n : Nat} {xs : List (List D)} : (accO n (xs.map (·.map V.d)) = some ⟨n, xs.map (·.map V.d)⟩) = (xs ≠ []) := by
  unfold accO; split
  · next h => have : xs = [] := by simpa using h
              subst this; simp
  · next h => have : xs ≠ [] := by simpa using h
              simp [this]
theorem map_ne {β : Type} {f : β → List D} {l : List β} : (l.map f ≠ []) = (l ≠ []) := by simp
theorem appG {β : Type} {n byt o id : Nat} {z : List V} {sq : Bool} {y : V} {f : β → List D} {l r v : List β} {L : V → Heap → Prop} (hx : appO byt l r = some v) (hsq : sq = true) (hσ : σ o = accO n ((l.map f).map (·.map .d))) (h5 : srcRows σ y = some ((r.map f).map (·.map .d)))
    (h6 : ∀ x ∈ r, (f x).length = n) (hne : r ≠ []) (k : L (accV id n ((v.map f).map (·.map .d))) (upd (del σ o) id (accO n ((v.map f).map (·.map .d))))) : appK (some (n, byt, z)) sq σ id (accV o n ((l.map f).map (·.map .d))) y L := by
  obtain ⟨hb, rfl⟩ := appO_some hx
  have e : ((l ++ r).map f).map (·.map V.d) = (l.map f).map (·.map V.d) ++ (r.map f).map (·.map V.d) := by simp
  rw [e] at k
  refine app_acc hsq hσ h5 (by simpa using hne) (fun row hr => ?_) rowsOne_data (by simpa using hb) ?_
  · obtain ⟨q, hq, rfl⟩ := List.mem_map.1 hr
    obtain ⟨x, hx, rfl⟩ := List.mem_map.1 hq
    simpa using h6 x hx
  · rwa [accO_some (by simp [hne])] at k
end
/-! ### Fields of the project's data -/
def NodeA.op : NodeA → Int | .mk o _ _ _ => o
def NodeA.name : NodeA → ByteArray | .mk _ n _ _ => n
def NodeA.num : NodeA → RatA | .mk _ _ r _ => r
theorem NodeA.enc_eta (x : NodeA) : x.enc = [.val (.int .i64 x.op), .val (.string x.name), .val (.bool x.num.neg), slD u32V x.num.num, slD u32V x.num.den, slD NodeA.enc x.kids] := by
  cases x; rw [NodeA.enc_mk]; rfl
theorem RatA.enc_eta (x : RatA) : x.enc = [.val (.bool x.neg), slD u32V x.num, slD u32V x.den] := rfl
theorem NodeA.op_mk {o : Int} {n : ByteArray} {r : RatA} {k : List NodeA} : (NodeA.mk o n r k).op = o := nrfl rfl
theorem NodeA.name_mk {o : Int} {n : ByteArray} {r : RatA} {k : List NodeA} : (NodeA.mk o n r k).name = n := nrfl rfl
theorem NodeA.num_mk {o : Int} {n : ByteArray} {r : RatA} {k : List NodeA} : (NodeA.mk o n r k).num = r := nrfl rfl
theorem NodeA.kids_mk {o : Int} {n : ByteArray} {r : RatA} {k : List NodeA} : (NodeA.mk o n r k).kids = k := nrfl rfl
end Go.Iso
