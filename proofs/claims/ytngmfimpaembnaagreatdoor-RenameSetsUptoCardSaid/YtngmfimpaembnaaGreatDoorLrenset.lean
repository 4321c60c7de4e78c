/- Part of the proof of a law: contracts of the functions that the law reaches, or plain laws of them, out of the abstract layer (the texts YtngmfimpaembnaaGreatDoorIso..). No condition. -/
import Derived.Test.YtngmfimpaembnaaGreatDoorLrefimg2
import Derived.Test.YtngmfimpaembnaaGreatDoorLren2
import Derived.Test.YtngmfimpaembnaaGreatDoorPd
namespace Go.Proofs.YtngmfimpaembnaaGreatDoor
open Go Go.Iso Go.Proofs
set_option linter.unusedSimpArgs false
set_option linter.unusedVariables false
set_option maxRecDepth 100000
def uniT (n : NodeA) (x y : ByteArray) : List ByteArray := uniL n ++ [x, y, x ++ tick, y ++ tick]
theorem two_uni {n : NodeA} {x y : ByteArray} (hb : n.size ≤ 100000000) (hx : nameB x = true) (hy : nameB y = true) : Two x y (uniT n x y) := by
  have hu := uni_uni (n := n) hb
  have sx := (name_size hx).2
  have sy := (name_size hy).2
  refine ⟨hx, hy, ⟨fun v hv => ?_, ?_, fun v hv h39 => ?_⟩, by simp [uniT], by simp [uniT], by simp [uniT], by simp [uniT]⟩
  · rcases List.mem_append.1 hv with hv | hv
    · exact hu.siz v hv
    · simp only [List.mem_cons, List.not_mem_nil, or_false] at hv
      rcases hv with rfl | rfl | rfl | rfl
      · omega
      · omega
      · rw [tick_size]; omega
      · rw [tick_size]; omega
  · unfold uniT uniL topV
    rw [List.length_append, List.length_append, List.length_map]
    have := List.length_filter_le nameB (namesN n)
    rw [names_len] at this
    simp; omega
  · rcases List.mem_append.1 hv with hv | hv
    · exact List.mem_append_left _ (hu.cls v hv h39)
    · simp only [List.mem_cons, List.not_mem_nil, or_false] at hv
      rcases hv with rfl | rfl | rfl | rfl
      · simp [uniT]
      · simp [uniT]
      · exact absurd tick_last h39
      · exact absurd tick_last h39
theorem cov_T {n : NodeA} {x y : ByteArray} : Cov (uniT n x y) n := fun v hv hn => by
  obtain ⟨h1, h2⟩ := cov_uni n v hv hn
  exact ⟨List.mem_append_left _ h1, List.mem_append_left _ h2⟩
theorem names_ex {x y : ByteArray} : ∀ (n : NodeA) (v : ByteArray), v ∈ namesN (exS x y n) → v ∈ namesN n ∨ v = x ∨ v = y := by
  refine NodeA.ind fun n ih => ?_
  intro v hv
  cases n with
  | mk o m r ks =>
    rw [exS_mk, names_mk, List.mem_cons] at hv
    rw [names_mk, List.mem_cons]
    rcases hv with rfl | hv
    · unfold exN
      split
      · unfold swB
        split
        · exact .inr (.inr rfl)
        · split
          · exact .inr (.inl rfl)
          · exact .inl (.inl rfl)
      · exact .inl (.inl rfl)
    · obtain ⟨l, hl, hv⟩ := List.mem_flatten.1 hv
      rw [List.map_map] at hl
      obtain ⟨k, hk, rfl⟩ := List.mem_map.1 hl
      rcases ih k hk v hv with h | h
      · exact .inl (.inr (List.mem_flatten.2 ⟨_, List.mem_map_of_mem hk, h⟩))
      · exact .inr h
theorem cov_ex {n : NodeA} {x y : ByteArray} : Cov (uniT n x y) (exS x y n) := fun v hv hn => by
  rcases names_ex n v hv with h | rfl | rfl
  · exact cov_T v h hn
  · exact ⟨by simp [uniT], by simp [uniT]⟩
  · exact ⟨by simp [uniT], by simp [uniT]⟩
theorem sets_law {n : NodeA} {x y : ByteArray} (hb : n.size ≤ 100000000) : ∃ K, law18_RenameSets K n x y = some true := by
  refine ⟨2 * n.size + 2 * (uniT n x y).length + 200 + 200, ?_⟩
  obtain ⟨K, hKe⟩ : ∃ K, K = 2 * n.size + 2 * (uniT n x y).length + 200 + 200 := ⟨_, rfl⟩
  have haw : law18_awake K = some true := by rw [hKe]; exact awake18_eq _
  rw [← hKe]
  have hp := n.size_pos
  have hbig : n.size ≤ big := by unfold big; omega
  have hU := rename_Uniform_eq (K := K) (n := n) (x := x) (y := y) (by omega) (by omega) hbig
  unfold law18_RenameSets
  simp only [haw, Option.bind_some, Bool.not_true, Bool.false_eq_true, if_false, r08_Size_eq (show n.size ≤ K by omega) hbig, hU]
  cases decide ((1000 : Int) < (n.size : Int)) with
  | true => rfl
  | false =>
  simp only [Bool.false_eq_true, if_false]
  by_cases hr : rootS n = 0
  rotate_left
  · have e : (rootS n != 0) = true := by simpa using hr
    have hu : uniA n x y = (zN, rootS n) := by unfold uniA; rw [e]; rfl
    simp only [hu, e, if_true]
  have e : (rootS n != 0) = false := by simpa using hr
  by_cases hn : nameB x = true ∧ nameB y = true
  rotate_left
  · have hu : uniA n x y = (zN, 3) := by
      unfold uniA
      have e2 : (!nameB x || !nameB y) = true := by
        cases h1 : nameB x <;> cases h2 : nameB y <;> simp_all
      rw [e, e2]; rfl
    simp only [hu]; rfl
  obtain ⟨hx, hy⟩ := hn
  by_cases hren : renB n = true
  rotate_left
  · have hu : uniA n x y = (zN, 180) := by
      unfold uniA
      have e3 : renB n = false := by simpa using hren
      rw [e, hx, hy, e3]; rfl
    simp only [hu]; rfl
  have hu : uniA n x y = (exS x y n, 0) := by unfold uniA; rw [e, hx, hy, hren]; rfl
  have h2 := two_uni (n := n) hb hx hy
  have hf : Fine n := ⟨_, _, _, (rootS_ok hr).1⟩
  have hf' : Fine (exS x y n) := ⟨_, _, _, (rootS_ok (exS_root hx hy hr)).1⟩
  have hc : Cov (uniT n x y) n := cov_T
  have hc' : Cov (uniT n x y) (exS x y n) := cov_ex
  have hs : (exS x y n).size = n.size := exS_size n
  have hKO : KOk (uniT n x y) K := ⟨by omega, by omega⟩
  have hK : KR (uniT n x y) n K := ⟨hKO, by omega⟩
  have hK' : KR (uniT n x y) (exS x y n) K := ⟨hKO, by omega⟩
  have qf := r10_FreeOf_eq h2.uni hf hc hbig hK
  have qf' := r10_FreeOf_eq h2.uni hf' hc' (by omega) hK'
  have qb := r10_BoundOf_eq h2.uni hf hc hbig hK
  have qb' := r10_BoundOf_eq h2.uni hf' hc' (by omega) hK'
  have qm := r10_MustOf_eq h2.uni hf hc hbig hK
  have qm' := r10_MustOf_eq h2.uni hf' hc' (by omega) hK'
  have gf := good_free h2.uni n hf hc
  have gb := good_bndR h2.uni n hf hc
  have gm := good_must h2.uni n hf hc
  rw [im_free h2 n hf hc] at qf'
  rw [im_bound h2 n hf hc] at qb'
  rw [im_must h2 n hf hc] at qm'
  have same : ∀ A, Good (uniT n x y) A → r10_Same K (imS x y A) (imS x y A) = some true := fun A hA => same_eq (by have := (good_im h2 hA).len; omega) (good_im h2 hA).lt
  simp only [hu, bne_self_eq_false, Bool.false_eq_true, if_false, qf, qf', qb, qb', qm, qm', swapped_eq h2 gf hKO, swapped_eq h2 gb hKO, swapped_eq h2 gm hKO, same _ gf, same _ gb, same _ gm, Option.bind_some, if_true, r08_Sort_eq]
  cases (sortS n.op != 3) <;> rfl
end Go.Proofs.YtngmfimpaembnaaGreatDoor
