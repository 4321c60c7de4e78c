/- Part of the proof of a law: contracts of the functions that the law reaches, or plain laws of them, out of the abstract layer (the texts YtphgabghcedphaaGreatDoorIso..). No condition. -/
import Derived.Test.YtphgabghcedphaaGreatDoorLread
import Derived.Test.YtphgabghcedphaaGreatDoorPc
namespace Go.Proofs.YtphgabghcedphaaGreatDoor
open Go Go.Iso Go.Proofs
set_option linter.unusedSimpArgs false
set_option linter.unusedVariables false
set_option maxRecDepth 100000
section
variable {x y : ByteArray} {s : List Bnd}
theorem truth_ev (c : Ctx x y s) : ∀ n : NodeA, Fine n → n.words → anyB unkO n = false → anyB modO n = false → sortS n.op = 2 → ∀ (d : Nat) (dot : Isochroneref11_dualA), Du dot →
  Ev κT (fun i => iter (i.1 - d) (fun self q => r11_truth_body i.1 self q.1 q.2.1 q.2.2.1 q.2.2.2) (eN x y i.2 n, sN x y s i.2, [], dot)) fun _ => True := by
 refine NodeA.ind fun n ih => ?_
 intro hf hw hu hmo hs d dot hdot
 have hop : (n.op = 20 ∨ n.op = 21 ∨ n.op = 28) ∨ (n.op = 29 ∨ n.op = 30 ∨ n.op = 31 ∨ n.op = 32) ∨ (n.op = 22 ∨ n.op = 23 ∨ n.op = 24 ∨ n.op = 25 ∨ n.op = 26 ∨ n.op = 27) := by
  have h1 := any_op hu
  have h2 := any_op hmo
  unfold unkO symO at h1
  unfold modO at h2
  simp only [Bool.or_eq_false_iff, beq_eq_false_iff_ne] at h1 h2
  unfold sortS at hs
  have : 20 ≤ n.op ∧ n.op ≤ 39 := by
   by_cases h3 : 20 ≤ n.op ∧ n.op ≤ 39
   ·exact h3
   ·exfalso
    revert hs
    split
    ·decide
    ·rw [if_neg (by simp only [Bool.and_eq_true, decide_eq_true_eq]; exact h3)]
     split
     ·decide
     ·split <;> decide
  omega
 refine Ev.congr (d + 1) (g := fun i => r11_truth_body i.1 (fun q => iter (i.1 - (d + 1)) (fun self q => r11_truth_body i.1 self q.1 q.2.1 q.2.2.1 q.2.2.2) q) (eN x y i.2 n) (sN x y s i.2) [] dot) (fun i hi => ?_) ?_
 ·have hi : d + 1 ≤ i.1 := hi
  obtain ⟨e, he⟩ : ∃ e, i.1 - d = e + 1 := ⟨i.1 - (d + 1), by omega⟩
  rw [he, iter_succ, show e = i.1 - (d + 1) by omega]
 have ih' : ∀ k ∈ n.kids, sortS k.op = 2 → Ev κT (fun i => (fun q => iter (i.1 - (d + 1)) (fun self q => r11_truth_body i.1 self q.1 q.2.1 q.2.2.1 q.2.2.2) q) (eN x y i.2 k, sN x y s i.2, [], dot)) fun _ => True := fun k hk hks => ih k hk (fine_kid hf hk) (NodeA.words_kid hw hk) (any_kid hu hk) (any_kid hmo hk) hks (d + 1) dot hdot
 generalize hG : (fun (i : Tw) (q : NodeA × List Bnd × List Api_PairA × Isochroneref11_dualA) => iter (i.1 - (d + 1)) (fun self q => r11_truth_body i.1 self q.1 q.2.1 q.2.2.1 q.2.2.2) q) = G
 have ih2 : ∀ k ∈ n.kids, sortS k.op = 2 → Ev κT (fun i => G i (eN x y i.2 k, sN x y s i.2, [], dot)) fun _ => True := by rw [← hG]; exact ih'
 show Ev κT (fun i => r11_truth_body i.1 ((fun (i : Tw) (q : NodeA × List Bnd × List Api_PairA × Isochroneref11_dualA) => iter (i.1 - (d + 1)) (fun self q => r11_truth_body i.1 self q.1 q.2.1 q.2.2.1 q.2.2.2) q) i) (eN x y i.2 n) (sN x y s i.2) [] dot) fun _ => True
 rw [hG]
 clear hG ih' ih
 unfold r11_truth_body
 simp only [eN_op, eN_num, eN_kids]
 have mem1 : ∀ {k}, n.kids = [k] → k ∈ n.kids := fun h => by rw [h]; exact List.mem_cons_self ..
 have mem2 : ∀ {k l}, n.kids = [k, l] → k ∈ n.kids ∧ l ∈ n.kids := fun h => by rw [h]; exact ⟨List.mem_cons_self .., List.mem_cons_of_mem _ (List.mem_cons_self ..)⟩
 have ev : ∀ k ∈ n.kids, sortS k.op = 1 → Ev κT (fun i => r11_eval i.1 (eN x y i.2 k) (sN x y s i.2) [] dot false) Du := fun k hk hks => eval_ev c k (fine_kid hf hk) (NodeA.words_kid hw hk) (any_kid hu hk) hks 0 dot false hdot
 rcases hop with hop | hop | hop
 ·rcases hop with h | h | h
  ·simp only [h, Int.reduceBEq, Bool.false_eq_true, if_false, if_true]; exact Ev.ret trivial
  ·simp only [h, Int.reduceBEq, Bool.false_eq_true, if_false, if_true]; exact Ev.ret trivial
  ·obtain ⟨k, hk, hks⟩ := kids1 (kids_of hf ((sortsC_of h rfl rfl).trans (show _ = [2] from by decide +kernel)))
   simp only [h, hk, List.map_cons, List.map_nil, idx0, Option.bind_some, Int.reduceBEq, Bool.false_eq_true, if_false, if_true]
   refine Ev.bind (P := fun o => ∃ r, o = .out r) ?_ fun o ho => by obtain ⟨r, rfl⟩ := ho; exact Ev.ret trivial
   exact Ev.bind (ih2 k (mem1 hk) hks) fun u hu => Ev.ret ⟨_, rfl⟩
 ·have hc : sortsC n = [2, 2] := by
   rcases hop with h | h | h | h <;> exact (sortsC_of h rfl rfl).trans (by decide +kernel)
  obtain ⟨k, l, hk, hks, hls⟩ := kids2 (kids_of hf hc)
  have hb : (if (n.op == (29 : Int)) then some (n.op == (29 : Int)) else if (n.op == (30 : Int)) then some (n.op == (30 : Int)) else if (n.op == (31 : Int)) then some (n.op == (31 : Int)) else some (n.op == (32 : Int)) : Option Bool) = some true := by
   rcases hop with h | h | h | h <;> rw [h] <;> rfl
  have h0 : (n.op == 20) = false ∧ (n.op == 21) = false ∧ (n.op == 28) = false := by
   rcases hop with h | h | h | h <;> rw [h] <;> decide
  simp only [h0.1, h0.2.1, h0.2.2, hb, hk, List.map_cons, List.map_nil, idx0, idx1, Option.bind_some, Bool.false_eq_true, if_false, if_true]
  refine Ev.bind (P := fun o => ∃ r, o = .out r) ?_ fun o ho => by obtain ⟨r, rfl⟩ := ho; exact Ev.ret trivial
  refine Ev.bind (ih2 k (mem2 hk).1 hks) fun u _ => Ev.bind (ih2 l (mem2 hk).2 hls) fun v _ => ?_
  refine Ev.bind (P := fun _ => True) ?_ fun b _ => ?_
  ·repeat' (first | exact Ev.ret trivial | split)
  ·split
   ·exact Ev.ret ⟨_, rfl⟩
   ·exact Ev.ret ⟨_, rfl⟩
 ·have hc : sortsC n = [1, 1] := by
   rcases hop with h | h | h | h | h | h <;> exact (sortsC_of h rfl rfl).trans (by decide +kernel)
  obtain ⟨k, l, hk, hks, hls⟩ := kids2 (kids_of hf hc)
  have hb : (if (n.op == (29 : Int)) then some (n.op == (29 : Int)) else if (n.op == (30 : Int)) then some (n.op == (30 : Int)) else if (n.op == (31 : Int)) then some (n.op == (31 : Int)) else some (n.op == (32 : Int)) : Option Bool) = some false := by
   rcases hop with h | h | h | h | h | h <;> rw [h] <;> rfl
  have hb2 : (if (n.op == (37 : Int)) then some (n.op == (37 : Int)) else some (n.op == (38 : Int)) : Option Bool) = some false := by
   rcases hop with h | h | h | h | h | h <;> rw [h] <;> rfl
  have h0 : (n.op == 20) = false ∧ (n.op == 21) = false ∧ (n.op == 28) = false := by
   rcases hop with h | h | h | h | h | h <;> rw [h] <;> decide
  simp only [h0.1, h0.2.1, h0.2.2, hb, hb2, hk, List.map_cons, List.map_nil, idx0, idx1, Option.bind_some, Out.fin_go, Bool.false_eq_true, if_false, if_true]
  refine Ev.bind (ev k (mem2 hk).1 hks) fun u hu => Ev.bind (ev l (mem2 hk).2 hls) fun v hv => ?_
  refine Ev.bind (P := fun o => (∃ r, o = .out r) ∨ o = .go ()) ?_ fun o ho => ?_
  ·refine Ev.bind (P := fun _ => True) (by split <;> exact Ev.ret trivial) fun b _ => ?_
   split
   ·exact Ev.ret (.inl ⟨_, rfl⟩)
   ·exact Ev.ret (.inr rfl)
  ·rcases ho with ⟨r, rfl⟩ | rfl
   ·exact Ev.ret trivial
   ·simp only [Out.fin_go]
    refine Ev.bind (Ev.sub (RCmp_ev hu.1 hv.1 (by unfold lim; omega))) fun z _ => ?_
    repeat' (first | exact Ev.ret trivial | split)
theorem check2 {n : NodeA} (h : checkS n 2 = 0) : okS n false false false = true ∧ sortS n.op = 2 := by
 unfold checkS at h
 revert h
 cases hq : (sortS n.op != 2) with
 | true => cases (decide ((n.size : Int) ≤ 4000) && decide ((n.lev : Int) ≤ 60)) <;> simp
 | false =>
  have hs : sortS n.op = 2 := by simpa using hq
  cases (decide ((n.size : Int) ≤ 4000) && decide ((n.lev : Int) ≤ 60)) <;> cases okS n false false false <;> simp [hs]
theorem check2_ex {n : NodeA} (hx : nameB x = true) (hy : nameB y = true) (h : checkS n 2 = 0) : checkS (exS x y n) 2 = 0 := by
 have hok := (check2 h).1
 have hok' := exS_ok hx hy n _ _ _ hok
 unfold checkS at h ⊢
 rw [exS_op, exS_size, exS_lev]
 rw [hok] at h
 rw [hok']
 exact h
theorem pairs_check : Ev id (fun K => r11_Check K []) fun r => r = 0 := ⟨10, 0, rfl, fun i hi => by
 obtain ⟨k, rfl⟩ : ∃ k, i = k + 10 := ⟨i - 10, by simp only [id] at hi; omega⟩
 rfl⟩
theorem zero_plain {m : Int} (hm : m ≤ 4096) : Ev id (fun K => r11_plain K ⟨false, [], [1]⟩ m) Du := plain_ev (Fr.zero (by unfold lim; omega)) hm
theorem valid_two (c : Ctx x y s) : Ev κT (fun i => r11_Valid i.1 (sN x y s i.2)) fun b => b = true := by
 have ok := exT_ok c.st c.wd c.len c.nx c.ny 4 (by omega)
 refine Ev.congr 0 (fun i _ => ?_) (Ev.two ((Valid_ev c.wd).mono fun b hb => hb.2 c.st) ((Valid_ev ok.2.1).mono fun b hb => hb.2 ok.1))
 obtain ⟨i, b⟩ := i
 cases b <;> rfl
theorem Long_ev (c : Ctx x y s) {n : NodeA} (hw : n.words) (hb : n.size ≤ big) (hc : checkS n 2 = 0) : Ev id (fun K => r11_Long K n s []) fun _ => True := by
 obtain ⟨hok, hs⟩ := check2 hc
 have hf : Fine n := ⟨_, _, _, hok⟩
 unfold r11_Long
 simp only [r08_Sort_eq, hs, Option.bind_some]
 refine Ev.congr (2 * n.size + 20) (fun i hi => by rw [r08_Check_eq (K := i) (n := n) (s := 2) (by simp only [id] at hi; omega) (by simp only [id] at hi; omega) hb hw, hc, Unknown_eq (K := i) (n := n) (by simp only [id] at hi; omega) hb, Modal_eq (K := i) (n := n) (by simp only [id] at hi; omega) hb]) ?_
 simp only [show ((2 : Int) != 1) = true from rfl, show ((2 : Int) != 2) = false from rfl, show ((2 : Int) == 1) = false from rfl, show ((2 : Int) == 2) = true from rfl, show ((0 : Int) != 0) = false from rfl, if_true, Bool.false_eq_true, if_false, Option.bind_some]
 have fin : ∀ o : Out Unit Bool, (o = .out false ∨ (o = .go () ∧ anyB unkO n = false ∧ anyB modO n = false)) → Ev id (fun K => Out.fin (fun _ => (r02_Zero K).bind fun r45 => (r11_plain K r45 (200 : Int)).bind fun r47 => (r11_truth K n s [] r47).bind fun r49 => some r49.2) o) fun _ => True := by
  rintro o (rfl | ⟨rfl, h1, h2⟩)
  ·exact Ev.ret trivial
  ·refine Ev.op _ rfl (Ev.bind (zero_plain (by omega)) fun u hu => ?_)
   obtain ⟨k, r, _, h⟩ := truth_ev c n hf hw h1 h2 hs 0 u hu
   exact Ev.bind (P := fun _ => True) ⟨k, r, trivial, fun i hi => h (i, false) hi⟩ fun r _ => Ev.ret trivial
 refine Ev.bind (P := fun o => o = .out false ∨ (o = .go () ∧ anyB unkO n = false ∧ anyB modO n = false)) ?_ fin
 refine Ev.bind (P := fun b => b = true ∨ (b = false ∧ anyB unkO n = false ∧ anyB modO n = false)) ?_ fun b hb => ?_
 ·refine Ev.bind ((Valid_ev c.wd).mono fun b hb => hb.2 c.st) fun b hb => ?_
  subst hb
  simp only [Bool.not_true, Bool.false_eq_true, if_false]
  refine Ev.bind pairs_check fun z hz => ?_
  subst hz
  simp only [show ((0 : Int) != 0) = false from rfl, Bool.false_eq_true, if_false]
  cases h1 : anyB unkO n with
  | true => exact Ev.ret (.inl rfl)
  | false =>
   simp only [Bool.false_eq_true, if_false]
   cases h2 : anyB modO n with
   | true => exact Ev.ret (.inl rfl)
   | false => exact Ev.ret (.inr ⟨rfl, by simp, by simp⟩)
 ·rcases hb with rfl | ⟨rfl, h⟩
  ·exact Ev.ret (.inl rfl)
  ·exact Ev.ret (.inr ⟨rfl, h⟩)
theorem Truth_ev (c : Ctx x y s) {n : NodeA} (hw : n.words) (hb : n.size ≤ big) (hc : checkS n 2 = 0) : Ev κT (fun i => r11_Truth i.1 (eN x y i.2 n) (sN x y s i.2) []) fun _ => True := by
 obtain ⟨hok, hs⟩ := check2 hc
 have hf : Fine n := ⟨_, _, _, hok⟩
 have sz : ∀ b, (eN x y b n).size = n.size := fun b => by unfold eN; split; exact exS_size n; rfl
 have wd : ∀ b, (eN x y b n).words := fun b => by unfold eN; split; exact exS_words n hw; exact hw
 have ck : ∀ b, checkS (eN x y b n) 2 = 0 := fun b => by unfold eN; split; exact check2_ex c.nx c.ny hc; exact hc
 have an : ∀ b p, anyB p (eN x y b n) = anyB p n := fun b p => by unfold eN; split; exact anyB_ex n; rfl
 unfold r11_Truth
 refine Ev.congr (2 * n.size + 20) (fun i hi => by
  have hi : 2 * n.size + 20 ≤ i.1 := hi
  rw [r08_Check_eq (K := i.1) (n := eN x y i.2 n) (s := 2) (by omega) (by rw [sz]; omega) (by rw [sz]; exact hb) (wd _), ck, Unknown_eq (K := i.1) (n := eN x y i.2 n) (by rw [sz]; omega) (by rw [sz]; exact hb), Modal_eq (K := i.1) (n := eN x y i.2 n) (by rw [sz]; omega) (by rw [sz]; exact hb), an, an]) ?_
 simp only [show ((0 : Int) != 0) = false from rfl, if_true, Bool.false_eq_true, if_false, Option.bind_some]
 refine Ev.bind (P := fun o => o = .go ()) ?_ ?_
 ·refine Ev.bind (P := fun b => b = false) ?_ fun b hb => by subst hb; exact Ev.ret rfl
  refine Ev.bind (valid_two c) fun b hb => ?_
  subst hb
  simp only [Bool.not_true, Bool.false_eq_true, if_false]
  exact Ev.bind (Ev.sub pairs_check) fun z hz => by subst hz; exact Ev.ret rfl
 ·rintro o rfl
  simp only [Out.fin_go]
  cases h2 : anyB modO n with
  | true => exact Ev.ret trivial
  | false =>
   cases h1 : anyB unkO n with
   | true => exact Ev.ret trivial
   | false =>
    simp only [Bool.false_eq_true, if_false]
    refine Ev.op _ rfl (Ev.bind (Ev.sub (zero_plain (by omega))) fun u hu => ?_)
    refine Ev.bind (P := fun _ => True) (truth_ev c n hf hw h1 h2 hs 0 u hu) fun r _ => ?_
    split
    ·exact Ev.ret trivial
    ·exact Ev.ret trivial
end
theorem moves_ev {n : NodeA} {x y : ByteArray} {s : List Bnd} (hb : n.size ≤ big) (hw : n.words) (hwd : Wd s) : Ev id (fun K => law18_RenameMoves K n x y s) fun r => r = true := by
 unfold law18_RenameMoves
 refine Ev.congr (2 * n.size + 300) (fun i hi => by
  simp only [id] at hi
  obtain ⟨k, hk⟩ : ∃ k, i = k + 200 := ⟨i - 200, by omega⟩
  rw [show law18_awake i = some true by rw [hk]; exact awake18_eq k, r08_Size_eq (K := i) (n := n) (by omega) hb, r08_Check_eq (K := i) (n := n) (s := 2) (by omega) (by omega) hb hw, rename_Uniform_eq (K := i) (n := n) (by omega) (by omega) hb]) ?_
 simp only [Option.bind_some, Bool.not_true, Bool.false_eq_true, if_false]
 by_cases h300 : (300 : Int) < n.size
 ·simp only [ltT h300, if_true, Option.bind_some, outM_eq, Out.fin_out]; exact Ev.ret rfl
 simp only [ltF (show (n.size : Int) ≤ 300 by omega), Bool.false_eq_true, if_false]
 by_cases h20 : 20 < s.length
 ·simp only [ltT (show (20 : Int) < (s.length : Int) by omega), if_true, Option.bind_some, outM_eq, Out.fin_out]; exact Ev.ret rfl
 simp only [ltF (show (s.length : Int) ≤ 20 by omega), Bool.false_eq_true, if_false]
 rcases Classical.em (checkS n 2 = 0) with hck | hck
 rotate_left
 ·simp only [bne_iff_ne.2 hck, Option.bind_some, if_true, outM_eq, Out.fin_out]; exact Ev.ret rfl
 simp only [hck, show ((0 : Int) != 0) = false from rfl, Option.bind_some, Bool.false_eq_true, if_false, Out.fin_go]
 rcases Classical.em ((uniA n x y).2 = 0) with hu | hu
 rotate_left
 ·simp only [bne_iff_ne.2 hu, if_true]; exact Ev.ret rfl
 have huni : nameB x = true ∧ nameB y = true ∧ uniA n x y = (exS x y n, 0) := by
  unfold uniA at hu ⊢
  cases h1 : rootS n != 0 with
  | true => rw [h1] at hu; simp only [if_true] at hu; rw [hu] at h1; cases h1
  | false =>
   rw [h1] at hu
   cases h2 : nameB x <;> cases h3 : nameB y <;> cases h4 : renB n <;> rw [h2, h3, h4] at hu <;> first | (exact ⟨rfl, rfl, rfl⟩) | (exfalso; simp at hu)
 obtain ⟨hx, hy, huni⟩ := huni
 have sx := name_size hx
 have sy := name_size hy
 rw [huni]
 simp only [show ((0 : Int) != 0) = false from rfl, Bool.false_eq_true, if_false, show (⟨#[39]⟩ : ByteArray) = tick from rfl, catO_tick (show x.size < 100 by omega), catO_tick (show y.size < 100 by omega), Option.bind_some]
 refine Ev.bind (P := fun o => o = .out true ∨ (o = .go (exT x y s 4) ∧ StOk s)) ?_ ?_
 ·refine Ev.iter (fun q : List Bnd × Int => ∃ i : Nat, q.2 = i ∧ i ≤ 4 ∧ q.1 = exT x y s i ∧ (0 < i → StOk s)) (fun q => 4 - q.2.toNat) ?_ ⟨0, rfl, by omega, rfl, fun h => absurd h (by omega)⟩
  rintro ⟨t, i'⟩ ⟨i, rfl, hi, ht, hst⟩ G hG
  dsimp only at ht hG ⊢
  subst ht
  have tx := @tick_size x
  have ty := @tick_size y
  have step : ∀ (a b : ByteArray), i < 4 → a.size < 100 → b.size < 100 → varB b = true → idx [x, y, x ++ tick, y ++ tick] (bXor .i64 (i : Int) 1) = some a → idx [x, y, x ++ tick, y ++ tick] (i : Int) = some b → exT x y s (i + 1) = upS b (gS s a) (exT x y s i) →
    Ev id (fun K => (idx [x, y, x ++ tick, y ++ tick] (bXor .i64 (i : Int) 1)).bind fun x29 => (r11_Get K s x29).bind fun r31 => if (r31.2 != 0) = true then outM (some true) else (idx [x, y, x ++ tick, y ++ tick] (i : Int)).bind fun x34 => (r11_Set K (exT x y s i) x34 r31.1).bind fun r36 => if (r36.2 != 0) = true then outM (some false) else G K (r36.1, IntKind.wrap .i64 ((i : Int) + 1)))
     fun o => o = .out true ∨ (o = .go (exT x y s 4) ∧ StOk s) := fun a b hi4 ha hb' hv e1 e2 e3 => by
   rw [e1, e2]
   simp only [Option.bind_some]
   refine Ev.bind (Get_ev hwd (by omega)) fun r hr => ?_
   rcases hr with hr | ⟨hs, rfl⟩
   ·simp only [bne_iff_ne.2 hr, if_true, outM_eq]; exact Ev.ret (.inl rfl)
   ·simp only [show ((0 : Int) != 0) = false from rfl, Bool.false_eq_true, if_false]
    have ok := exT_ok hs hwd (by omega) hx hy i (by omega)
    refine Ev.bind (Set_ev ok.1 ok.2.1 (by omega) hv (by omega) (gS_ok hs.2.1) (gS_words hwd)) fun u hu => ?_
    subst hu
    simp only [show ((0 : Int) != 0) = false from rfl, Bool.false_eq_true, if_false, w64s (show i < 9223372036854775807 by omega)]
    exact hG _ ⟨i + 1, rfl, by omega, e3.symm, fun _ => hs⟩ (by dsimp only; omega)
  match i, hi with
  | 4, _ =>
   simp only [ltF (show (4 : Int) ≤ ((4 : Nat) : Int) by omega), Bool.false_eq_true, if_false]
   exact Ev.ret (.inr ⟨rfl, hst (by omega)⟩)
  | 0, _ => exact step y x (by omega) (by omega) (by omega) (name_var hx) (by rw [show bXor .i64 ((0 : Nat) : Int) 1 = 1 from by decide +kernel]; rfl) rfl rfl
  | 1, _ => exact step x y (by omega) (by omega) (by omega) (name_var hy) (by rw [show bXor .i64 ((1 : Nat) : Int) 1 = 0 from by decide +kernel]; rfl) rfl rfl
  | 2, _ => exact step (y ++ tick) (x ++ tick) (by omega) (by omega) (by omega) (tick_var hx) (by rw [show bXor .i64 ((2 : Nat) : Int) 1 = 3 from by decide +kernel]; rfl) rfl rfl
  | 3, _ => exact step (x ++ tick) (y ++ tick) (by omega) (by omega) (by omega) (tick_var hy) (by rw [show bXor .i64 ((3 : Nat) : Int) 1 = 2 from by decide +kernel]; rfl) rfl rfl
 ·rintro o (rfl | ⟨rfl, hs⟩)
  ·exact Ev.ret rfl
  ·simp only [Out.fin_go]
   have c : Ctx x y s := ⟨hs, hwd, by omega, hx, hy⟩
   refine Ev.bind (Long_ev c hw hb hck) fun b _ => ?_
   cases b with
   | true => exact Ev.ret rfl
   | false =>
    simp only [Bool.false_eq_true, if_false]
    obtain ⟨k, r, _, h⟩ := Truth_ev c hw hb hck
    have e1 : Ev id (fun K => r11_Truth K n s []) fun q => q = r := ⟨k, r, rfl, fun i hi => h (i, false) hi⟩
    have e2 : Ev id (fun K => r11_Truth K (exS x y n) (exT x y s 4) []) fun q => q = r := ⟨k, r, rfl, fun i hi => h (i, true) hi⟩
    refine Ev.bind e1 fun q hq => Ev.bind e2 fun q' hq' => ?_
    subst hq hq'
    simp only [beq_self_eq_true, if_true]
    exact Ev.ret rfl
theorem moves_law {n : NodeA} {x y : ByteArray} {s : List Bnd} (hb : n.size ≤ big) (hw : n.words) (hwd : Wd s) : ∃ K, law18_RenameMoves K n x y s = some true := by
 obtain ⟨k, r, rfl, h⟩ := moves_ev hb hw hwd
 exact ⟨k, h k (Nat.le_refl _)⟩
end Go.Proofs.YtphgabghcedphaaGreatDoor
