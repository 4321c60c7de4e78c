/- Part of the proof of a law: contracts of the functions that the law reaches, or plain laws of them, out of the abstract layer (the texts YtngmfimpaembnaaGreatDoorIso..). No condition. -/
import Derived.Test.YtngmfimpaembnaaGreatDoorLrefimg
namespace Go.Proofs.YtngmfimpaembnaaGreatDoor
open Go Go.Iso Go.Proofs
set_option linter.unusedSimpArgs false
set_option linter.unusedVariables false
set_option maxRecDepth 100000
section
variable {x y : ByteArray} {V : List ByteArray}
theorem exN_v {op : Int} {m : ByteArray} (h : varOp op = true) : exN x y op m = swB x y m := by unfold exN; rw [if_pos h]
theorem v_of {op : Int} (h : op = 2 ∨ op = 3 ∨ op = 50 ∨ op = 51 ∨ op = 52 ∨ op = 55 ∨ op = 33 ∨ op = 34) : varOp op = true := varOp_iff.2 h
theorem map_im {l : List NodeA} {f : NodeA → Api_NamesA} (h : ∀ k ∈ l, f (exS x y k) = imS x y (f k)) : (l.map (exS x y)).map f = (l.map f).map (imS x y) := by
  rw [List.map_map, List.map_map]
  exact List.map_congr_left h
theorem im_self (h : Two x y V) {n : NodeA} (hf : Fine n) (hc : Cov V n) (hn : namedS n.op = true) : imS x y (oneS n.name) = oneS (swB x y n.name) ∧ imS x y (oneS (n.name ++ tick)) = oneS (swB x y n.name ++ tick) := by
  obtain ⟨g1, g2, _⟩ := good_name h.uni hf hc hn
  have hm := fine_name hf hn
  exact ⟨im_name h hm g1, im_namet h hm g2⟩
theorem im_flow (h : Two x y V) : ∀ {ks : List NodeA} {s : Api_NamesA}, Good V s → (∀ k ∈ ks, Fine k ∧ Cov V k) → (ks.map (exS x y)).foldl flowM (imS x y s) = imS x y (ks.foldl flowM s)
  | [], _, _, _ => rfl
  | k :: ks, s, hs, hk => by
    obtain ⟨hf, hc⟩ := hk k (List.mem_cons_self ..)
    have hg := good_flow (ks := [k]) h.uni (fun z hz => by rw [List.mem_singleton] at hz; subst hz; exact ⟨hf, hc⟩) s hs
    have e : flowM (imS x y s) (exS x y k) = imS x y (flowM s k) := by
      unfold flowM
      rw [exS_op]
      cases h55 : k.op == 55 with
      | false => rfl
      | true =>
        have ho : k.op = 55 := eq_of_beq h55
        have hn : namedS k.op = true := named_b (by omega)
        obtain ⟨g1, g2, _⟩ := good_name h.uni hf hc hn
        obtain ⟨i1, i2⟩ := im_self h hf hc hn
        simp only [if_true]
        rw [exS_name, exN_v (v_of (by omega)), im_union h hs (good_union g1 g2), im_union h g1 g2, i1, i2]
    show (ks.map (exS x y)).foldl flowM (flowM (imS x y s) (exS x y k)) = imS x y (ks.foldl flowM (flowM s k))
    rw [e]
    exact im_flow h hg fun z hz => hk z (List.mem_cons_of_mem _ hz)
theorem im_must (h : Two x y V) : ∀ n : NodeA, Fine n → Cov V n → mustS (exS x y n) = imS x y (mustS n) := by
  refine NodeA.ind fun n ih => ?_
  intro hf hc
  have hL : ∀ a ∈ n.kids.map mustS, Good V a := fun a ha => by obtain ⟨k, hk, rfl⟩ := List.mem_map.1 ha; exact good_must h.uni k (fine_kid hf hk) (cov_kid hc hk)
  have hm : (n.kids.map (exS x y)).map mustS = (n.kids.map mustS).map (imS x y) := map_im fun k hk => ih k hk (fine_kid hf hk) (cov_kid hc hk)
  rw [mustS_eq, mustS_eq n, exS_op, exS_name, exS_kids, hm]
  generalize n.kids.map mustS = L at hL
  unfold mustB
  split
  · rw [exN_v (v_of (by omega)), (im_self h hf hc (named_b (by omega))).1]
  split
  · rw [exN_v (v_of (by omega)), (im_self h hf hc (named_b (by omega))).2]
  split
  · have := im_flow h (ks := n.kids) (good_none h.uni false) fun k hk => ⟨fine_kid hf hk, cov_kid hc hk⟩
    rw [im_e h false] at this
    exact this
  split
  · rw [im_nth h, im_nth h, im_union h (good_nth h.uni hL 0) (good_nth h.uni hL 1)]
  split
  · rw [im_nth h, im_nth h, im_meet h (good_nth h.uni hL 0) (good_nth h.uni hL 1)]
  split
  · rw [im_nth h]
  · exact (im_e h false).symm
theorem im_free (h : Two x y V) : ∀ n : NodeA, Fine n → Cov V n → freeS (exS x y n) = imS x y (freeS n) := by
  refine NodeA.ind fun n ih => ?_
  intro hf hc
  have hL : ∀ a ∈ n.kids.map freeS, Good V a := fun a ha => by obtain ⟨k, hk, rfl⟩ := List.mem_map.1 ha; exact good_free h.uni k (fine_kid hf hk) (cov_kid hc hk)
  have hM : ∀ a ∈ n.kids.map mustS, Good V a := fun a ha => by obtain ⟨k, hk, rfl⟩ := List.mem_map.1 ha; exact good_must h.uni k (fine_kid hf hk) (cov_kid hc hk)
  have hm : (n.kids.map (exS x y)).map freeS = (n.kids.map freeS).map (imS x y) := map_im fun k hk => ih k hk (fine_kid hf hk) (cov_kid hc hk)
  have hm2 : (n.kids.map (exS x y)).map mustS = (n.kids.map mustS).map (imS x y) := map_im fun k hk => im_must h k (fine_kid hf hk) (cov_kid hc hk)
  rw [freeS_eq, freeS_eq n, exS_op, exS_name, exS_kids, hm, hm2]
  generalize n.kids.map freeS = L at hL
  generalize n.kids.map mustS = M at hM
  unfold freeB
  split
  · rw [exN_v (v_of (by omega)), (im_self h hf hc (named_b (by omega))).1]
  split
  · rw [exN_v (v_of (by omega)), (im_self h hf hc (named_b (by omega))).2]
  split
  · exact (im_e h true).symm
  split
  · rw [im_nth h]
    show (if (nthS L 0).all then allS else prmS (imS x y (nthS L 0))) = _
    split
    · exact (im_e h true).symm
    · rw [im_prm h (good_nth h.uni hL 0)]
  split
  · have hn : namedS n.op = true := named_b (by omega)
    rw [im_nth h, exN_v (v_of (by omega)), im_minus h (good_nth h.uni hL 0) (good_name h.uni hf hc hn).1, (im_self h hf hc hn).1]
  split
  · rw [im_nth h, im_nth h, im_nth h, im_union h (good_nth h.uni hL 0) (good_minus (good_nth h.uni hL 1) (good_nth h.uni hM 0)), im_minus h (good_nth h.uni hL 1) (good_nth h.uni hM 0)]
  split
  · have hn : namedS n.op = true := named_b (by omega)
    rw [exN_v (v_of (by omega)), im_union h (good_unL (good_none h.uni false) hL) (good_name h.uni hf hc hn).1, (im_self h hf hc hn).1, im_unL h (good_none h.uni false) hL, im_e h false]
  · rw [im_unL h (good_none h.uni false) hL, im_e h false]
theorem im_any (h : Two x y V) : ∀ n : NodeA, Fine n → Cov V n → anyS (exS x y n) = imS x y (anyS n) := by
  refine NodeA.ind fun n ih => ?_
  intro hf hc
  have hL : ∀ a ∈ n.kids.map anyS, Good V a := fun a ha => by obtain ⟨k, hk, rfl⟩ := List.mem_map.1 ha; exact good_any h.uni k (fine_kid hf hk) (cov_kid hc hk)
  have hm : (n.kids.map (exS x y)).map anyS = (n.kids.map anyS).map (imS x y) := map_im fun k hk => ih k hk (fine_kid hf hk) (cov_kid hc hk)
  rw [anyS_eq, anyS_eq n, exS_op, exS_name, exS_kids, hm]
  generalize n.kids.map anyS = L at hL
  unfold anyB
  by_cases h1 : n.op = 50 ∨ n.op = 52 ∨ n.op = 33 ∨ n.op = 34
  · have hn : namedS n.op = true := named_b (by omega)
    rw [if_pos h1, if_pos h1, exN_v (v_of (by omega)), im_unL h (good_name h.uni hf hc hn).1 hL, (im_self h hf hc hn).1]
  rw [if_neg h1, if_neg h1]
  by_cases h2 : n.op = 51
  · have hn : namedS n.op = true := named_b (by omega)
    rw [if_pos h2, if_pos h2, exN_v (v_of (by omega)), im_unL h (good_name h.uni hf hc hn).2.1 hL, (im_self h hf hc hn).2]
  rw [if_neg h2, if_neg h2]
  by_cases h3 : n.op = 55
  · have hn : namedS n.op = true := named_b (by omega)
    have g := good_name h.uni hf hc hn
    rw [if_pos h3, if_pos h3, exN_v (v_of (by omega)), im_unL h (good_union g.1 g.2.1) hL, im_union h g.1 g.2.1, (im_self h hf hc hn).1, (im_self h hf hc hn).2]
  rw [if_neg h3, if_neg h3]
  by_cases h4 : n.op = 56 ∨ n.op = 61 ∨ n.op = 62
  · rw [if_pos h4, im_unL h (good_none h.uni true) hL, im_e h true]
  · rw [if_neg h4, im_unL h (good_none h.uni false) hL, im_e h false]
theorem im_bound (h : Two x y V) : ∀ n : NodeA, Fine n → Cov V n → bndR (exS x y n) = imS x y (bndR n) := by
  refine NodeA.ind fun n ih => ?_
  intro hf hc
  have hL : ∀ a ∈ n.kids.map bndR, Good V a := fun a ha => by obtain ⟨k, hk, rfl⟩ := List.mem_map.1 ha; exact good_bndR h.uni k (fine_kid hf hk) (cov_kid hc hk)
  have hm : (n.kids.map (exS x y)).map bndR = (n.kids.map bndR).map (imS x y) := map_im fun k hk => ih k hk (fine_kid hf hk) (cov_kid hc hk)
  rw [bndR_eq, bndR_eq n, exS_op, exS_name, exS_kids, hm, im_any h n hf hc]
  generalize n.kids.map bndR = L at hL
  unfold boundB
  by_cases h0 : sortS n.op = 2
  · rw [if_pos h0, if_pos h0]
  rw [if_neg h0, if_neg h0]
  by_cases h3 : n.op = 55
  · have hn : namedS n.op = true := named_b (by omega)
    have g := good_name h.uni hf hc hn
    rw [if_pos h3, if_pos h3, exN_v (v_of (by omega)), im_union h g.1 g.2.1, (im_self h hf hc hn).1, (im_self h hf hc hn).2]
  rw [if_neg h3, if_neg h3]
  by_cases h4 : n.op = 56 ∨ n.op = 61 ∨ n.op = 62
  · rw [if_pos h4, if_pos h4]; exact (im_e h true).symm
  rw [if_neg h4, if_neg h4]
  by_cases h5 : n.op = 53
  · rw [if_pos h5, if_pos h5]; exact (im_e h false).symm
  rw [if_neg h5, if_neg h5]
  by_cases h6 : n.op = 54
  · rw [if_pos h6, if_pos h6, List.length_map, ← List.map_take, im_unL h (good_none h.uni false) fun a ha => hL a (List.mem_of_mem_take ha), im_e h false]
  rw [if_neg h6, if_neg h6]
  by_cases h1 : n.op = 50 ∨ n.op = 52
  · have hn : namedS n.op = true := named_b (by omega)
    rw [if_pos h1, if_pos h1, exN_v (v_of (by omega)), im_unL h (good_name h.uni hf hc hn).1 hL, (im_self h hf hc hn).1]
  rw [if_neg h1, if_neg h1]
  by_cases h2 : n.op = 51
  · have hn : namedS n.op = true := named_b (by omega)
    rw [if_pos h2, if_pos h2, exN_v (v_of (by omega)), im_unL h (good_name h.uni hf hc hn).2.1 hL, (im_self h hf hc hn).2]
  · rw [if_neg h2, if_neg h2, im_unL h (good_none h.uni false) hL, im_e h false]
end
end Go.Proofs.YtngmfimpaembnaaGreatDoor
