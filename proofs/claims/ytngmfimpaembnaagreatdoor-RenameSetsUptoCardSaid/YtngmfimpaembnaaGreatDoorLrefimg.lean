/- Part of the proof of a law: contracts of the functions that the law reaches, or plain laws of them, out of the abstract layer (the texts YtngmfimpaembnaaGreatDoorIso..). No condition. -/
import Derived.Test.YtngmfimpaembnaaGreatDoorLrefeq3
import Derived.Test.YtngmfimpaembnaaGreatDoorPd
namespace Go.Proofs.YtngmfimpaembnaaGreatDoor
open Go Go.Iso Go.Proofs
set_option linter.unusedSimpArgs false
set_option linter.unusedVariables false
set_option maxRecDepth 100000
/-! ### Names exchanged in sets -/
def sgB (x y v : ByteArray) : ByteArray := if v.toList == x.toList then y else if v.toList == y.toList then x else if v.toList == (x ++ tick).toList then y ++ tick else if v.toList == (y ++ tick).toList then x ++ tick else v
section
variable {x y : ByteArray}
theorem tk_ne {x z : ByteArray} (h : nameB x = true) : x ≠ z ++ tick := fun e => name_last h (by rw [e]; exact tick_last)
theorem sg_x : sgB x y x = y := by unfold sgB; rw [if_pos (eqB.2 rfl)]
theorem sg_y : sgB x y y = x := by
  unfold sgB
  by_cases h : y = x
  · subst h; rw [if_pos (eqB.2 rfl)]
  · rw [if_neg (by rw [neB h]; simp), if_pos (eqB.2 rfl)]
theorem sg_xt (hx : nameB x = true) (hy : nameB y = true) : sgB x y (x ++ tick) = y ++ tick := by
  unfold sgB
  rw [if_neg (by rw [neB (tk_ne hx).symm]; simp), if_neg (by rw [neB (tk_ne hy).symm]; simp), if_pos (eqB.2 rfl)]
theorem sg_yt (hx : nameB x = true) (hy : nameB y = true) : sgB x y (y ++ tick) = x ++ tick := by
  unfold sgB
  rw [if_neg (by rw [neB (tk_ne hx).symm]; simp), if_neg (by rw [neB (tk_ne hy).symm]; simp)]
  by_cases h : y ++ tick = x ++ tick
  · rw [if_pos (eqB.2 h), h]
  · rw [if_neg (by rw [neB h]; simp), if_pos (eqB.2 rfl)]
theorem sg_o {v : ByteArray} (h1 : v ≠ x) (h2 : v ≠ y) (h3 : v ≠ x ++ tick) (h4 : v ≠ y ++ tick) : sgB x y v = v := by
  unfold sgB
  rw [if_neg (by rw [neB h1]; simp), if_neg (by rw [neB h2]; simp), if_neg (by rw [neB h3]; simp), if_neg (by rw [neB h4]; simp)]
theorem sg_cases (v : ByteArray) : v = x ∨ v = y ∨ v = x ++ tick ∨ v = y ++ tick ∨ (v ≠ x ∧ v ≠ y ∧ v ≠ x ++ tick ∧ v ≠ y ++ tick) := by
  by_cases h1 : v = x
  · exact .inl h1
  by_cases h2 : v = y
  · exact .inr (.inl h2)
  by_cases h3 : v = x ++ tick
  · exact .inr (.inr (.inl h3))
  by_cases h4 : v = y ++ tick
  · exact .inr (.inr (.inr (.inl h4)))
  · exact .inr (.inr (.inr (.inr ⟨h1, h2, h3, h4⟩)))
theorem sg_sg (hx : nameB x = true) (hy : nameB y = true) (v : ByteArray) : sgB x y (sgB x y v) = v := by
  rcases sg_cases (x := x) (y := y) v with h | h | h | h | ⟨h1, h2, h3, h4⟩
  · rw [h, sg_x, sg_y]
  · rw [h, sg_y, sg_x]
  · rw [h, sg_xt hx hy, sg_yt hx hy]
  · rw [h, sg_yt hx hy, sg_xt hx hy]
  · rw [sg_o h1 h2 h3 h4, sg_o h1 h2 h3 h4]
theorem sg_inj (hx : nameB x = true) (hy : nameB y = true) {u v : ByteArray} (h : sgB x y u = sgB x y v) : u = v := by
  have := congrArg (sgB x y) h; rwa [sg_sg hx hy, sg_sg hx hy] at this
theorem sg_var (hx : nameB x = true) (hy : nameB y = true) {v : ByteArray} (h : varB v = true) : varB (sgB x y v) = true := by
  rcases sg_cases (x := x) (y := y) v with e | e | e | e | ⟨h1, h2, h3, h4⟩
  · rw [e, sg_x]; exact name_var hy
  · rw [e, sg_y]; exact name_var hx
  · rw [e, sg_xt hx hy]; exact tick_var hy
  · rw [e, sg_yt hx hy]; exact tick_var hx
  · rw [sg_o h1 h2 h3 h4]; exact h
theorem tickB_name {z : ByteArray} (h : nameB z = true) : tickB z = false := by
  unfold tickB; exact beq_eq_false_iff_ne.2 (name_last h)
theorem tickB_tick {z : ByteArray} : tickB (z ++ tick) = true := by unfold tickB; rw [tick_last]; rfl
theorem sg_tickB (hx : nameB x = true) (hy : nameB y = true) (v : ByteArray) : tickB (sgB x y v) = tickB v := by
  rcases sg_cases (x := x) (y := y) v with e | e | e | e | ⟨h1, h2, h3, h4⟩
  · rw [e, sg_x, tickB_name hx, tickB_name hy]
  · rw [e, sg_y, tickB_name hx, tickB_name hy]
  · rw [e, sg_xt hx hy, tickB_tick, tickB_tick]
  · rw [e, sg_yt hx hy, tickB_tick, tickB_tick]
  · rw [sg_o h1 h2 h3 h4]
theorem sg_tick (hx : nameB x = true) (hy : nameB y = true) {v : ByteArray} (h : tickB v = false) : sgB x y (v ++ tick) = sgB x y v ++ tick := by
  rcases sg_cases (x := x) (y := y) v with e | e | e | e | ⟨h1, h2, h3, h4⟩
  · rw [e, sg_x, sg_xt hx hy]
  · rw [e, sg_y, sg_yt hx hy]
  · rw [e, tickB_tick] at h; cases h
  · rw [e, tickB_tick] at h; cases h
  · rw [sg_o h1 h2 h3 h4, sg_o (tk_ne hx).symm (tk_ne hy).symm (fun e => h1 (tick_inj e)) (fun e => h2 (tick_inj e))]
theorem sg_name (hx : nameB x = true) (hy : nameB y = true) {m : ByteArray} (h : nameB m = true) : sgB x y m = swB x y m := by
  by_cases h1 : m = x
  · rw [h1, sg_x, swB_x]
  by_cases h2 : m = y
  · rw [h2, sg_y, swB_y]
  rw [sg_o h1 h2 (tk_ne h) (tk_ne h), swB_o h1 h2]
theorem sg_namet (hx : nameB x = true) (hy : nameB y = true) {m : ByteArray} (h : nameB m = true) : sgB x y (m ++ tick) = swB x y m ++ tick := by
  rw [sg_tick hx hy (tickB_name h), sg_name hx hy h]
def imS (x y : ByteArray) (A : Api_NamesA) : Api_NamesA := ⟨A.all, sortB (A.list.map (sgB x y))⟩
structure Two (x y : ByteArray) (V : List ByteArray) : Prop where
  hx : nameB x = true
  hy : nameB y = true
  uni : Uni V
  mx : x ∈ V
  my : y ∈ V
  xt : x ++ tick ∈ V
  yt : y ++ tick ∈ V
variable {V : List ByteArray} {A B : Api_NamesA}
theorem sg_in (h : Two x y V) {v : ByteArray} (hv : v ∈ V) : sgB x y v ∈ V := by
  rcases sg_cases (x := x) (y := y) v with e | e | e | e | ⟨h1, h2, h3, h4⟩
  · rw [e, sg_x]; exact h.my
  · rw [e, sg_y]; exact h.mx
  · rw [e, sg_xt h.hx h.hy]; exact h.yt
  · rw [e, sg_yt h.hx h.hy]; exact h.xt
  · rw [sg_o h1 h2 h3 h4]; exact hv
theorem im_mem (h : Two x y V) {v : ByteArray} : v ∈ (imS x y A).list ↔ sgB x y v ∈ A.list := by
  show v ∈ sortB (A.list.map (sgB x y)) ↔ _
  rw [mem_sortB, List.mem_map]
  constructor
  · rintro ⟨u, hu, rfl⟩; rw [sg_sg h.hx h.hy]; exact hu
  · exact fun hv => ⟨_, hv, sg_sg h.hx h.hy v⟩
theorem good_im (h : Two x y V) (hA : Good V A) : Good V (imS x y A) :=
  ⟨sp_sort (nodup_map (fun _ _ e => sg_inj h.hx h.hy e) (sp_nodup hA.sp)), fun v hv => by
    have := hA.var _ ((im_mem h).1 hv)
    have h2 := sg_var h.hx h.hy this
    rwa [sg_sg h.hx h.hy] at h2, fun v hv => by
    have := sg_in h (hA.sub _ ((im_mem h).1 hv))
    rwa [sg_sg h.hx h.hy] at this, hA.uni⟩
theorem im_in (h : Two x y V) (v : ByteArray) : inS (imS x y A) v = inS A (sgB x y v) := by
  unfold inS
  rw [pB_iff (im_mem h)]; rfl
theorem im_union (h : Two x y V) (hA : Good V A) (hB : Good V B) : imS x y (unionS A B) = unionS (imS x y A) (imS x y B) :=
  good_ext (good_im h (good_union hA hB)) (good_union (good_im h hA) (good_im h hB)) (by show (unionS A B).all = _; rw [union_all, union_all]; rfl) fun v => by
    rw [im_in h, union_in hA hB, union_in (good_im h hA) (good_im h hB), im_in h, im_in h]
theorem im_not (h : Two x y V) (hA : Good V A) : imS x y (notS A) = notS (imS x y A) := rfl
theorem im_meet (h : Two x y V) (hA : Good V A) (hB : Good V B) : imS x y (meetS A B) = meetS (imS x y A) (imS x y B) := by
  unfold meetS
  rw [im_not h (good_union (good_not hA) (good_not hB)), im_union h (good_not hA) (good_not hB), im_not h hA, im_not h hB]
theorem im_minus (h : Two x y V) (hA : Good V A) (hB : Good V B) : imS x y (minusS A B) = minusS (imS x y A) (imS x y B) := by
  unfold minusS
  rw [im_meet h hA (good_not hB), im_not h hB]
theorem im_one (h : Two x y V) {m : ByteArray} (hm : Good V (oneS m)) (hm' : Good V (oneS (sgB x y m))) : imS x y (oneS m) = oneS (sgB x y m) :=
  good_ext (good_im h hm) hm' rfl fun v => by
    rw [im_in h]
    unfold inS
    have : pB (sgB x y v ∈ (oneS m).list) = pB (v ∈ (oneS (sgB x y m)).list) := pB_iff (by
      simp only [List.mem_singleton]
      constructor
      · rintro rfl; rw [sg_sg h.hx h.hy]
      · rintro rfl; rw [sg_sg h.hx h.hy])
    rw [this]
theorem im_e (h : Two x y V) (b : Bool) : imS x y ⟨b, []⟩ = ⟨b, []⟩ :=
  good_ext (good_im h (good_none h.uni b)) (good_none h.uni b) rfl fun v => by
    rw [im_in h]; unfold inS; rw [pB_false.2 (by simp), pB_false.2 (by simp)]
theorem im_name (h : Two x y V) {m : ByteArray} (hm : nameB m = true) (g : Good V (oneS m)) : imS x y (oneS m) = oneS (swB x y m) := by
  have hm' : m ∈ V := g.sub m (by simp)
  rw [im_one h g ?_, sg_name h.hx h.hy hm]
  exact good_one h.uni (sg_var h.hx h.hy (name_var hm)) (sg_in h hm')
theorem im_namet (h : Two x y V) {m : ByteArray} (hm : nameB m = true) (g : Good V (oneS (m ++ tick))) : imS x y (oneS (m ++ tick)) = oneS (swB x y m ++ tick) := by
  have hm' : m ++ tick ∈ V := g.sub _ (by simp)
  rw [im_one h g ?_, sg_namet h.hx h.hy hm]
  exact good_one h.uni (sg_var h.hx h.hy (tick_var hm)) (sg_in h hm')
theorem im_unL (h : Two x y V) : ∀ {l : List Api_NamesA} {s : Api_NamesA}, Good V s → (∀ a ∈ l, Good V a) → imS x y (unL s l) = unL (imS x y s) (l.map (imS x y))
  | [], s, _, _ => rfl
  | a :: l, s, hs, hl => by
    have ha := hl a (List.mem_cons_self ..)
    show imS x y (unL (unionS s a) l) = unL (unionS (imS x y s) (imS x y a)) (l.map (imS x y))
    rw [im_unL h (good_union hs ha) fun b hb => hl b (List.mem_cons_of_mem _ hb), im_union h hs ha]
theorem im_nth (h : Two x y V) (L : List Api_NamesA) (i : Nat) : nthS (L.map (imS x y)) i = imS x y (nthS L i) := by
  unfold nthS
  rw [List.getD_eq_getElem?_getD, List.getD_eq_getElem?_getD, List.getElem?_map]
  cases L[i]? with
  | none => exact (im_e h false).symm
  | some a => rfl
theorem prm_step {o : Api_NamesA} {u : ByteArray} {s : Api_NamesA} (hs : Good V s) (hu : u ∈ s.list) (ho : Good V o) : Good V (primF o u) ∧ ∀ v, inS (primF o u) v = true ↔ inS o v = true ∨ (tickB u = false ∧ v = u ++ tick) := by
  unfold primF
  cases ht : tickB u with
  | true => exact ⟨ho, fun v => by simp⟩
  | false =>
    have hne : u[u.size - 1]? ≠ some 39 := by unfold tickB at ht; simpa using ht
    have hvar := hs.var u hu
    have hn : nameB u = true := by unfold varB unpB at hvar; rwa [if_neg (fun h2 => hne h2.2)] at hvar
    have g1 : Good V (oneS (u ++ tick)) := good_one hs.uni (tick_var hn) (hs.uni.cls u (hs.sub u hu) hne)
    refine ⟨good_union ho g1, fun v => ?_⟩
    simp only [Bool.false_eq_true, if_false]
    rw [union_in ho g1, Bool.or_eq_true]
    have : inS (oneS (u ++ tick)) v = true ↔ v = u ++ tick := by
      unfold inS
      simp only [Bool.bne_false, pB_true, List.mem_singleton]
    rw [this]; simp
theorem prm_in {s : Api_NamesA} (hs : Good V s) (v : ByteArray) : inS (prmS s) v = true ↔ inS s v = true ∨ ∃ u ∈ s.list, tickB u = false ∧ v = u ++ tick := by
  have key : ∀ (l : List ByteArray) (o : Api_NamesA), Good V o → (∀ u ∈ l, u ∈ s.list) → (inS (l.foldl primF o) v = true ↔ inS o v = true ∨ ∃ u ∈ l, tickB u = false ∧ v = u ++ tick) := by
    intro l
    induction l with
    | nil => intro o _ _; simp
    | cons u l ih =>
      intro o ho hl
      obtain ⟨g, hi⟩ := prm_step hs (hl u (List.mem_cons_self ..)) ho
      rw [List.foldl_cons, ih _ g fun w hw => hl w (List.mem_cons_of_mem _ hw), hi]
      simp only [List.mem_cons, exists_eq_or_imp, or_assoc]
  exact key s.list s hs fun _ h => h
theorem prm_all {s : Api_NamesA} : (prmS s).all = s.all := by
  have key : ∀ (l : List ByteArray) (o : Api_NamesA), (l.foldl primF o).all = o.all := by
    intro l
    induction l with
    | nil => exact fun _ => rfl
    | cons u l ih =>
      intro o
      rw [List.foldl_cons, ih]
      unfold primF
      split
      · rfl
      · rw [union_all]; simp
  exact key s.list s
theorem im_prm (h : Two x y V) {s : Api_NamesA} (hs : Good V s) : imS x y (prmS s) = prmS (imS x y s) :=
  good_ext (good_im h (good_prim hs)) (good_prim (good_im h hs)) (by show (prmS s).all = _; rw [prm_all, prm_all]; rfl) fun v => by
    rw [im_in h, Bool.eq_iff_iff, prm_in hs, prm_in (good_im h hs), im_in h]
    refine or_congr Iff.rfl ⟨fun ⟨u, hu, ht, e⟩ => ⟨sgB x y u, (im_mem h).2 (by rw [sg_sg h.hx h.hy]; exact hu), by rw [sg_tickB h.hx h.hy]; exact ht, ?_⟩, fun ⟨u, hu, ht, e⟩ => ⟨sgB x y u, (im_mem h).1 hu, by rw [sg_tickB h.hx h.hy]; exact ht, ?_⟩⟩
    · rw [← sg_tick h.hx h.hy ht, ← e, sg_sg h.hx h.hy]
    · rw [e, sg_tick h.hx h.hy ht]
theorem swapped_eq {K : Nat} (h : Two x y V) (hA : Good V A) (hK : KOk V K) : law18_swapped K A x y = some (imS x y A) := by
  have hlen := hA.len
  have htop := hA.lt
  have ht : topV = 1000000000000 := rfl
  have hsx := h.uni.siz x h.mx
  have hsy := h.uni.siz y h.my
  have g1 : ∀ u ∈ A.list, Good V (oneS (sgB x y u)) := fun u hu => good_one h.uni (sg_var h.hx h.hy (hA.var u hu)) (sg_in h (hA.sub u hu))
  have gW : ∀ i, Good V (unL noneS ((A.list.take i).map fun u => oneS (sgB x y u))) := fun i => good_unL (good_none h.uni false) fun a ha => by
    obtain ⟨u, hu, rfl⟩ := List.mem_map.1 ha; exact g1 u (List.mem_of_mem_take hu)
  have aW : ∀ i, (unL noneS ((A.list.take i).map fun u => oneS (sgB x y u))).all = false := fun i => unL_all rfl fun a ha => by
    obtain ⟨u, _, rfl⟩ := List.mem_map.1 ha; rfl
  have hfin : (⟨A.all, (unL noneS (A.list.map fun u => oneS (sgB x y u))).list⟩ : Api_NamesA) = imS x y A := by
    have e := gW A.list.length
    rw [List.take_length] at e
    have ea := aW A.list.length
    rw [List.take_length] at ea
    have : (unL noneS (A.list.map fun u => oneS (sgB x y u))).list = (imS x y A).list := ext_sp e.sp (good_im h hA).sp fun v => by
      rw [im_mem h]
      have hin := unL_in (good_none h.uni false) (l := A.list.map fun u => oneS (sgB x y u)) (fun a ha => by obtain ⟨u, hu, rfl⟩ := List.mem_map.1 ha; exact g1 u hu) v
      unfold inS at hin
      rw [ea] at hin
      simp only [Bool.bne_false, pB_true] at hin
      rw [hin]
      constructor
      · rintro (hq | ⟨a, ha, hq⟩)
        · cases hq
        · obtain ⟨u, hu, rfl⟩ := List.mem_map.1 ha
          simp only [Bool.bne_false, pB_true, List.mem_singleton] at hq
          rw [hq, sg_sg h.hx h.hy]; exact hu
      · intro hv
        exact .inr ⟨_, List.mem_map.2 ⟨_, hv, rfl⟩, by simp only [Bool.bne_false, pB_true, List.mem_singleton, sg_sg h.hx h.hy]⟩
    rw [this]; rfl
  unfold law18_swapped
  refine ob (imS x y A) (foldG A.list.length (fun i => ((i : Int), (⟨A.all, (unL noneS ((A.list.take i).map fun u => oneS (sgB x y u))).list⟩ : Api_NamesA))) _ (fun g i hi => ?_) (fun g => ?_) (by have := hK.2; omega) rfl) rfl
  · have hx' : A.list[i]? = some A.list[i] := List.getElem?_eq_getElem hi
    have hm := List.getElem_mem hi
    have et : A.list.take (i + 1) = A.list.take i ++ [A.list[i]] := by rw [List.take_add_one, hx']; rfl
    obtain ⟨W, hW⟩ : ∃ W, W = unL noneS ((A.list.take i).map fun u => oneS (sgB x y u)) := ⟨_, rfl⟩
    have gw := gW i
    have aw := aW i
    rw [← hW] at gw aw
    have hu := r10_Union_eq gw (g1 _ hm) hK
    have ew : (⟨false, W.list⟩ : Api_NamesA) = W := by cases W; simp only at aw; rw [aw]
    have enext : unL noneS ((A.list.take (i + 1)).map fun u => oneS (sgB x y u)) = unionS W (oneS (sgB x y A.list[i])) := by
      rw [et, hW]
      simp only [List.map_append, List.map_cons, List.map_nil, unL, List.foldl_append, List.foldl_cons, List.foldl_nil]
    have hsel : (if (A.list[i].toList == x.toList) then some y else if (A.list[i].toList == y.toList) then some x else (catO x (⟨#[39]⟩ : ByteArray)).bind fun s18 => if (A.list[i].toList == s18.toList) then (catO y (⟨#[39]⟩ : ByteArray)).bind fun s21 => some s21 else (catO y (⟨#[39]⟩ : ByteArray)).bind fun s23 => if (A.list[i].toList == s23.toList) then (catO x (⟨#[39]⟩ : ByteArray)).bind fun s26 => some s26 else some A.list[i]) = some (sgB x y A.list[i]) := by
      have cx : catO x (⟨#[39]⟩ : ByteArray) = some (x ++ tick) := catO_tick hsx
      have cy : catO y (⟨#[39]⟩ : ByteArray) = some (y ++ tick) := catO_tick hsy
      unfold sgB
      rw [cx, cy]
      simp only [Option.bind_some]
      cases A.list[i].toList == x.toList <;> cases A.list[i].toList == y.toList <;> cases A.list[i].toList == (x ++ tick).toList <;> cases A.list[i].toList == (y ++ tick).toList <;> rfl
    have hstep : ((idx A.list (i : Int)).bind fun x12 => ((if (x12.toList == x.toList) then some y else if (x12.toList == y.toList) then some x else (catO x (⟨#[39]⟩ : ByteArray)).bind fun s18 => if (x12.toList == s18.toList) then (catO y (⟨#[39]⟩ : ByteArray)).bind fun s21 => some s21 else (catO y (⟨#[39]⟩ : ByteArray)).bind fun s23 => if (x12.toList == s23.toList) then (catO x (⟨#[39]⟩ : ByteArray)).bind fun s26 => some s26 else some x12) : Option ByteArray).bind fun v14_0 => (r10_Only K v14_0).bind fun r28 => (r10_Union K (Api_NamesA.mk false W.list) r28).bind fun r30 => some (Api_NamesA.mk A.all r30.1.list)) = some (Api_NamesA.mk A.all (unionS W (oneS (sgB x y A.list[i]))).list) := by
      refine ob _ (by rw [idx_nat]; exact hx') (ob _ hsel (ob (oneS (sgB x y A.list[i])) rfl ?_))
      rw [ew]
      exact ob _ hu rfl
    rw [← hW]
    simp only [lt_tn hi, if_true]
    refine ob _ hstep ?_
    rw [w64s (by omega), enext]
  · simp only [lt_fn (Nat.le_refl A.list.length), Bool.false_eq_true, if_false, List.take_length, hfin]
end
end Go.Proofs.YtngmfimpaembnaaGreatDoor
