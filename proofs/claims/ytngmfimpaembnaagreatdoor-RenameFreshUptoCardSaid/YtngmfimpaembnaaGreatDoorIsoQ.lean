/- The abstract layer, part Q: calls whose result is a block of the run's own. -/
import Derived.Test.YtngmfimpaembnaaGreatDoorIsoU
import Derived.Test.YtngmfimpaembnaaGreatDoorIsoI
namespace Go.Iso
open Go Go.RowKit
set_option linter.unusedSimpArgs false
set_option linter.unusedVariables false
def oneH (x : Option Own) : Heap := fun o => if o = 0 then x else none
theorem oneH_at {x : Option Own} {o : Nat} : oneH x o = if o = 0 then x else none := nrfl rfl
def datO (x : Option Own) : Prop := ∀ y, x = some y → ∀ r ∈ y.rows, ∀ u ∈ r, ∃ d, u = V.d d
def Co [Glb] (P : Program) (f : FuncId) (args : List V) (v : V) (x : Option Own) : Prop :=
  Callable P f ∧ datO x ∧ ∀ I w cargs, Base I w → RepAll (fun _ => none) I w args cargs →
    Calls P f cargs w fun e w' => ∃ c I' ρ', e = .returned c ∧ Pure I w I' w' ∧ HeapOk (oneH x) ρ' I' w' ∧ (∀ b, ρ' 0 = some b → w.heap.size ≤ b) ∧ (∀ o, o ≠ 0 → ρ' o = none) ∧ RepV ρ' I' w' v c
theorem datO_acc {n : Nat} {xs : List (List D)} : datO (accO n (xs.map (·.map .d))) := by
  intro y hy r hr u hu
  unfold accO at hy
  split at hy
  · cases hy
  · obtain rfl := Option.some.inj hy
    obtain ⟨r', _, rfl⟩ := List.mem_map.1 hr
    obtain ⟨d, _, rfl⟩ := List.mem_map.1 hu
    exact ⟨d, rfl⟩
theorem accO_ne {n : Nat} {out : List (List V)} : (accO n out ≠ none) = (out ≠ []) := by
  unfold accO; split <;> simp [*]
section
variable {P : Program} {σ : Heap} {ρ : Nat → Option Nat} {I : Nat → Prop} {w : World} {f : FuncId}
theorem CallS.own [Glb] {N id : Nat} {args : List V} {v : V} {x : Option Own} (hc : Co P f args v x) (hr : V.refsL NoRef args) : CallS P f args σ N id (renV [id] v) (upd σ id x) := by
  refine ⟨hc.1, fun ρ I w cargs hh hfr hid hA => ?_⟩
  have hA2 : RepAll (fun _ => none) I w args cargs := ⟨hA.size, fun i hi => (hA.rep i hi).reid (V.refsL_get hr i hi) (fun _ _ h => h.elim)⟩
  refine Calls.mono (hc.2.2 I w cargs hh.base hA2) ?_
  rintro e w' ⟨c, I', ρ1, rfl, hp, h1, hge, hno, hv⟩
  have st := hp.step (σ := σ) (ρ := ρ)
  have hh' := hh.pure hp
  have key : ∀ o b, ρ o = some b → (fun o => if o = id then ρ1 0 else ρ o) o = some b := fun o b h => by
    have : o ≠ id := fun e => by rw [e, hid] at h; cases h
    simp only [this, if_false]; exact h
  refine ⟨c, fun o => if o = id then ρ1 0 else ρ o, I', rfl, ⟨⟨st.os, st.tape, st.output, st.size, st.kept, st.sz, fun b hb => ?_, st.imm, st.immNew⟩, key⟩, ⟨fun o y ho => ?_, fun o o' y y' b h2 h3 h4 h5 => ?_, hh'.base⟩, fun x hx => if_neg hx, ?_⟩
  · obtain ⟨o, y, h2, h3⟩ := hb
    by_cases e : o = id
    · subst e; simp only [if_true] at h3; exact .inr (hge b h3)
    · rw [upd_ne _ _ e] at h2; simp only [e, if_false] at h3; exact .inl ⟨o, y, h2, h3⟩
  · by_cases e : o = id
    · subst e
      rw [upd_same] at ho
      obtain ⟨b, c', e', k1, k2, k3, k4, k5⟩ := h1.own 0 y (by simpa [oneH] using ho)
      refine ⟨b, c', e', by simp only [if_true]; exact k1, k2, k3, k4, fun i hi => ⟨(k5 i hi).1, fun j hj => ?_⟩⟩
      have hd := hc.2.1 y ho _ (List.getElem_mem hi) _ (List.getElem_mem hj)
      refine ((k5 i hi).2 j hj).reid (S := NoRef) ?_ (fun _ _ h => h.elim)
      obtain ⟨d, hd⟩ := hd
      rw [hd]; simp [V.refs]
    · rw [upd_ne _ _ e] at ho
      obtain ⟨b, c', e', k1, k2, k3, k4, k5⟩ := hh'.own o y ho
      exact ⟨b, c', e', key o b k1, k2, k3, k4, fun i hi => ⟨(k5 i hi).1, fun j hj => ((k5 i hi).2 j hj).mono key (fun _ h => h) (fun _ _ => rfl) (fun _ c _ h => ⟨c, h, rfl⟩)⟩⟩
  · have lo : ∀ o y, o ≠ id → upd σ id x o = some y → (if o = id then ρ1 0 else ρ o) = some b → b < w.heap.size := fun o y e h6 h7 => by
      rw [upd_ne _ _ e] at h6; simp only [e, if_false] at h7; exact hh.owns_lt ⟨o, y, h6, h7⟩
    by_cases e : o = id
    · by_cases e' : o' = id
      · rw [e, e']
      · have l1 := lo o' y' e' h3 h5
        subst e; simp only [if_true] at h4
        have := hge b h4; omega
    · by_cases e' : o' = id
      · have l1 := lo o y e h2 h4
        subst e'; simp only [if_true] at h5
        have := hge b h5; omega
      · rw [upd_ne _ _ e] at h2; rw [upd_ne _ _ e'] at h3
        simp only [e, e', if_false] at h4 h5
        exact hh.inj o o' y y' b h2 h3 h4 h5
  · refine RepV.ren v (hv.mono (fun o b h => ?_) (fun _ h => h) (fun _ _ => rfl) (fun _ c _ h => ⟨c, h, rfl⟩))
    by_cases e : o = 0
    · subst e; simpa using h
    · rw [hno o e] at h; cases h
theorem callK_own [Glb] {N id : Nat} {g : FuncId} {caps args : List V} {v : V} {x : Option Own} {L : V → Heap → Prop} (hc : Co P g (args ++ caps) v x) (hr : V.refsL NoRef (args ++ caps)) (k : L (renV [id] v) (upd σ id x)) : callK P (.fn g caps) args σ N id L :=
  ⟨renV [id] v, upd σ id x, .inr (CallS.own hc hr), k⟩
theorem callK_ownC [Glb] {N id : Nat} {g : FuncId} {caps args args' : List V} {v : V} {x : Option Own} {L : V → Heap → Prop} (hc : Co P g args' v x) (hs : SealAll Heap.none (args ++ caps) args') (hr : V.refsL NoRef args') (k : L (renV [id] v) (upd σ id x)) : callK P (.fn g caps) args σ N id L := by
  refine ⟨renV [id] v, upd σ id x, .inr ⟨hc.1, fun ρ I w cargs hh hfr hid hA => ?_⟩, k⟩
  have hn : HeapOk Heap.none ρ I w := hh.forget fun o x h => by cases h
  have hA1 := hs.rep hn hA
  have hA2 : RepAll ρ I w args' cargs := ⟨hA1.size, fun i hi => ((hA1.rep i hi).mono (fun _ _ h => h) (fun b h => h.elim (fun h => h) fun ⟨_, _, h, _⟩ => by cases h) (fun _ _ => rfl) (fun _ c _ h => ⟨c, h, rfl⟩))⟩
  exact (CallS.own (σ := σ) (N := N) hc hr).2 ρ I w cargs hh hfr hid hA2
theorem Cn.ofCo [Glb] {args : List V} {v v' : V} {x : Option Own} (hc : Co P f args v x) (hs : SealV (oneH x) v v') (hv : v'.refs NoRef) : Cn P f args v' := by
  refine ⟨hc.1, fun I w cargs hlt hA => Calls.mono (hc.2.2 I w cargs hlt hA) ?_⟩
  rintro e w' ⟨c, I', ρ1, rfl, hp, h1, hge, hno, hr⟩
  refine ⟨c, fun b => I' b ∨ Owns (oneH x) ρ1 b, rfl, ⟨hp.below, fun b hb => .inl (hp.imm b hb), fun b hb => ?_, fun b hb => hb.elim (h1.lt b) fun h => h1.owns_lt h⟩, (hs.rep h1 hr).reid hv fun _ _ h => h.elim⟩
  rcases hb with hb | ⟨o, y, h2, h3⟩
  · exact hp.immNew b hb
  · by_cases e : o = 0
    · subst e; exact .inr (hge b h3)
    · simp [oneH, e] at h2
def OwnRes (σ : Heap) (u v : V) (x : Option Own) : Prop := ∃ o, SealV (dropH [o] σ) u (renV [o] v) ∧ σ o = x
theorem OwnRes.mk {u v : V} {x : Option Own} (o : Nat) (h1 : SealV (dropH [o] σ) u (renV [o] v)) (h2 : σ o = x) : OwnRes σ u v x := ⟨o, h1, h2⟩
theorem Co.ofA [Glb] {fn : Func} {c : Code} {args : List V} {v : V} {x : Option Own} {N : Nat} {rs : Array ResultVar} (hm : P.follows .mixedOrders = true) (hf : P.funcs[f]? = some fn) (hb : fn.body = some c) (hc : Callable P f) (hN : fn.ntmps = N) (hr : fn.results = rs) (hn : args.length ≤ N)
    (hd : datO x) (hv : v.refs (fun o => o = 0 ∧ x ≠ none)) (h : fitA args → AW P N 0 c (retQ P rs.toList (Later (Hold fun st u => OwnRes st.σ u v x))) ⟨argF args, Heap.none, 0⟩) : Co P f args v x := by
  subst hN hr
  refine ⟨hc, hd, fun I w cargs hlt hA => calls_of_wp hf hb ?_⟩
  have hh : HeapOk Heap.none (fun _ => none) I w := ⟨(fun o x h => by cases h), (fun o o' x x' b h => by cases h), hlt⟩
  have hcon : Conc fn.ntmps 0 ⟨argF args, Heap.none, 0⟩ (fun _ => none) I ⟨cargs ++ Array.replicate (fn.ntmps - cargs.size) undef, []⟩ w :=
    ⟨hh, fun _ _ => rfl, fun t => entry_frame hA t, rfl, by simp [hA.size]; omega, Nat.le_refl 0⟩
  refine wp_mono (h (fitA_of args _ hA.rep) _ I _ w hcon) ?_
  rintro e a' w' ⟨st', ρ', I', h1, h2, h3⟩
  have fin : resK P st' fn.results.toList (fun u => OwnRes st'.σ u v x) → a'.defers = [] ∧ ∃ c, (results fn a'.tmps).run P w' = .ok c w' ∧ ∃ c' I'' ρ'', Ending.returned c = .returned c' ∧ Pure I w I'' w' ∧ HeapOk (oneH x) ρ'' I'' w' ∧ (∀ b, ρ'' 0 = some b → w.heap.size ≤ b) ∧ (∀ o, o ≠ 0 → ρ'' o = none) ∧ RepV ρ'' I'' w' v c' := by
    intro hk
    obtain ⟨u, c, ⟨o, k1, ko⟩, k2, k3⟩ := resK_sound h2 hk
    have hno : ∀ b, ¬ Owns Heap.none (fun _ => none) b := fun b ⟨_, _, h, _⟩ => by cases h
    have dp : ∀ p y, dropH [o] st'.σ p = some y → p ≠ o ∧ st'.σ p = some y := fun p y h => by
      unfold dropH at h; split at h
      · cases h
      · next h1 => exact ⟨by simpa using h1, h⟩
    have hdr : HeapOk (dropH [o] st'.σ) ρ' I' w' := h2.heap.forget fun p y h => (dp p y h).2
    have subD : ∀ b, Owns (dropH [o] st'.σ) ρ' b → Owns st'.σ ρ' b := by
      rintro b ⟨p, y, h1, h2⟩; exact ⟨p, y, (dp p y h1).2, h2⟩
    refine ⟨h2.defers, c, k3, c, fun b => I' b ∨ Owns (dropH [o] st'.σ) ρ' b, fun m => if m = 0 ∧ x ≠ none then ρ' o else none, rfl, ⟨⟨h3.os, h3.tape, h3.output, h3.size, fun b hb => h3.kept b hb (hno b)⟩, fun b hb => .inl (h3.imm b hb), fun b hb => ?_, fun b hb => ?_⟩, ⟨fun m y hm => ?_, fun m m' y y' b l1 l2 l3 l4 => ?_, h2.heap.base.up (fun _ h => .inl h) fun b hb => ?_⟩, fun b hb => ?_, fun m hm => ?_, ?_⟩
    · rcases hb with hb | hb
      · rcases h3.immNew b hb with h | h | h
        · exact .inl h
        · exact absurd h (hno b)
        · exact .inr h
      · rcases h3.owned b (subD b hb) with h | h
        · exact absurd h (hno b)
        · exact .inr h
    · rcases hb with hb | hb
      · exact h2.heap.lt b hb
      · exact hdr.owns_lt hb
    · have hm0 : m = 0 := by
        apply Classical.byContradiction; intro e; simp [oneH, e] at hm
      subst hm0
      have hx : x = some y := by simpa [oneH] using hm
      obtain ⟨b, c', e', m1, m2, m3, m4, m5⟩ := h2.heap.own o y (ko.trans hx)
      refine ⟨b, c', e', by rw [if_pos ⟨rfl, by rw [hx]; simp⟩]; exact m1, m2, m3, ?_, fun i hi => ⟨(m5 i hi).1, fun j hj => ?_⟩⟩
      · rintro (hb | ⟨p, z, l1, l2⟩)
        · exact m4 hb
        · obtain ⟨p1, p2⟩ := dp p z l1
          exact p1 (h2.heap.inj p o _ _ b p2 (ko.trans hx) l2 m1)
      · obtain ⟨d, hd'⟩ := hd y hx _ (List.getElem_mem hi) _ (List.getElem_mem hj)
        refine (((m5 i hi).2 j hj).mono (fun _ _ h => h) (fun b h => (.inl h : I' b ∨ Owns (dropH [o] st'.σ) ρ' b)) (fun _ _ => rfl) (fun _ c _ h => ⟨c, h, rfl⟩)).reid (S := NoRef) (by rw [hd']; simp [V.refs]) (fun _ _ h => h.elim)
    · have e0 : ∀ m y, oneH x m = some y → m = 0 := fun m y h => by
        apply Classical.byContradiction; intro e; simp [oneH, e] at h
      rw [e0 m y l1, e0 m' y' l2]
    · rcases hb with hb | hb
      · exact h2.heap.lt b hb
      · exact hdr.owns_lt hb
    · have hb : (if (0 : Nat) = 0 ∧ x ≠ none then ρ' o else none) = some b := hb
      split at hb
      · next hx =>
        obtain ⟨y, hy⟩ := Option.ne_none_iff_exists'.1 hx.2
        rcases h3.owned b ⟨o, y, ko.trans hy, hb⟩ with h | h
        · exact absurd h (hno b)
        · exact h
      · cases hb
    · exact if_neg fun h => hm h.1
    · have r1 := k1.rep hdr k2
      have r2 := RepV.unren v r1
      refine RepV.reid r2 hv fun m b hm hb => ?_
      obtain ⟨rfl, hx⟩ := hm
      show (if (0 : Nat) = 0 ∧ x ≠ none then ρ' o else none) = some b
      rw [if_pos ⟨rfl, hx⟩]
      simpa using hb
  cases e with
  | normal => obtain ⟨k1, c, k2, k3⟩ := fin h1; exact ⟨k1, c, k2, k3⟩
  | ret => obtain ⟨k1, c, k2, k3⟩ := fin h1; exact ⟨k1, c, k2, k3⟩
  | _ => exact h1.elim
end
theorem okRows_dataT {m : Nat} {l : List (List D)} : okRows m (l.map (·.map V.d)) = True := eq_true okRows_data
theorem one_acc {o n : Nat} {out : List (List V)} : (accV o n out).one = true := by unfold accV; split <;> rfl
theorem priv_at {m : Nat} {σ : Heap} {o : Nat} : priv m σ o = if o < m then none else σ o := nrfl rfl
theorem join_none {α : Type} : (none : Option (Option α)).join = none := nrfl rfl
/-! ### Own slices: their elements -/
section
variable {α : Type} {f : α → List D} {l : List α} {z : Int} {v v' : α} {o n : Nat} {σ : Heap}
theorem idx_lt (hx : idx l z = some v) : z < (l.length : Int) := by
  obtain ⟨h1, h2⟩ := idx_some hx
  obtain ⟨h3, _⟩ := List.getElem?_eq_some_iff.1 h2
  omega
theorem idx_lt_set {i : Nat} (hx : idx (l.set i v') z = some v) : z < (l.length : Int) := by simpa using idx_lt hx
theorem idx_ne (hx : idx l z = some v) : l ≠ [] := fun h => by
  have := idx_lt hx; have := (idx_some hx).1; subst h; simp at *; omega
theorem rows_ne (h : l ≠ []) : (l.map f).map (·.map V.d) ≠ [] := by simpa using h
theorem accV_idx (hx : idx l z = some v) : accV o n ((l.map f).map (·.map .d)) = .msl o n 0 l.length := by
  rw [accV_msl (rows_ne (idx_ne hx))]; simp
theorem accO_idx (hx : idx l z = some v) : accO n ((l.map f).map (·.map .d)) = some ⟨n, (l.map f).map (·.map .d)⟩ := accO_some (rows_ne (idx_ne hx))
theorem set_ne {i : Nat} (h : l ≠ []) : l.set i v' ≠ [] := by simpa using h
theorem accV_set (hx : idx l z = some v) : accV o n (((l.set z.toNat v').map f).map (·.map .d)) = .msl o n 0 l.length := by
  rw [accV_msl (rows_ne (set_ne (idx_ne hx)))]; simp
theorem accO_set (hx : idx l z = some v) : accO n (((l.set z.toNat v').map f).map (·.map .d)) = some ⟨n, ((l.set z.toNat v').map f).map (·.map .d)⟩ := accO_some (rows_ne (set_ne (idx_ne hx)))
theorem rows_set {i : Nat} {row : List V} (h : row = (f v').map .d) : ((l.map f).map (·.map V.d)).set i row = ((l.set i v').map f).map (·.map .d) := by
  rw [h, List.map_set, List.map_set]
theorem appR {byt id : Nat} {zr : List V} {sq : Bool} {y : V} {r w : List α} {L : V → Heap → Prop} (hx : appO byt l r = some w) (hsq : sq = true) (hσ : σ o = some ⟨n, (l.map f).map (·.map .d)⟩) (h5 : srcRows σ y = some ((r.map f).map (·.map .d)))
    (h6 : ∀ x ∈ r, (f x).length = n) (k : L (.msl id n 0 w.length) (upd (del σ o) id (some ⟨n, (w.map f).map (·.map .d)⟩))) : appK (some (n, byt, zr)) sq σ id (.msl o n 0 l.length) y L := by
  obtain ⟨hb, rfl⟩ := appO_some hx
  refine app_msl hsq hσ rfl (by simp) h5 (fun row hr => ?_) rowsOne_data (by simpa using hb) ?_
  · obtain ⟨q, hq, rfl⟩ := List.mem_map.1 hr
    obtain ⟨x, hx, rfl⟩ := List.mem_map.1 hq
    simpa using h6 x hx
  · simpa using k
theorem cnvG {P : Program} {dr : Bool} {s d : TypeId} {zs : List Int} {K : V → Prop} (hd : dr = false) (ht : b2sT P s d = true) (hσ : σ o = accO 1 ((zs.map fun z => [D.val (.int .u8 z)]).map (·.map .d)))
    (k : K (.d (.val (.string (strOfNums zs))))) : cnvK P dr σ s d (accV o 1 ((zs.map fun z => [D.val (.int .u8 z)]).map (·.map .d))) K := .inr ⟨hd, ht, zs, .data hσ, k⟩
theorem sealArr (h : σ o = some ⟨n, (l.map f).map (·.map .d)⟩) : SealV σ (.msl o n 0 l.length) (slV f l) := by
  have : SealD σ (.msl o n 0 (l.map f).length) (.sl (l.map f)) := by
    refine .msl h rfl (by simp) (fun i hi => ?_) fun i j hi hj => ?_
    · simp at hi; simp [List.getD_eq_getElem?_getD, hi]
    · simp at hi
      simp only [Nat.zero_add, List.getD_eq_getElem?_getD, List.getElem?_map, List.getElem?_eq_getElem hi, Option.map_some, Option.getD_some, List.getElem_map]
      simp only [List.getElem_map] at hj
      rw [List.getElem?_eq_getElem hj]; exact .d _
  rw [List.length_map] at this
  exact .d this
end
attribute [go_sem] false_imp_iff accO_ne oneH_at toRow_acc rowOk_acc okRows_dataT one_acc priv_at join_none
end Go.Iso
