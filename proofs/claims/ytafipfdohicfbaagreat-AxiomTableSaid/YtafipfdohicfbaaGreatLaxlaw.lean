/- Part of the proof of a law: contracts of the functions that the law reaches, or plain laws of them, out of the abstract layer (the texts YtafipfdohicfbaaGreatIso..). No condition. -/
import Derived.Test.YtafipfdohicfbaaGreatPb
import Derived.Test.YtafipfdohicfbaaGreatLman
import Derived.Test.YtafipfdohicfbaaGreatIsoF
import Derived.KernelRfl
namespace Go.Proofs.YtafipfdohicfbaaGreat
open Go Go.Iso Go.Proofs
set_option linter.unusedSimpArgs false
set_option linter.unusedVariables false
set_option maxRecDepth 100000
theorem neN {a b : ByteArray} (h : a ≠ b) : (a.toList == b.toList) = false := by
 cases e : a.toList == b.toList with
 | false => rfl
 | true => exact absurd (toList_inj (by simpa using e)) h
theorem mem0 : nm0 ∈ namesL := by unfold namesL; simp only [List.mem_cons, true_or, or_true]
theorem entry0 : law19_entry 1000 nm0 = some true := by kernel_rfl
theorem mem1 : nm1 ∈ namesL := by unfold namesL; simp only [List.mem_cons, true_or, or_true]
theorem entry1 : law19_entry 1000 nm1 = some true := by kernel_rfl
theorem mem2 : nm2 ∈ namesL := by unfold namesL; simp only [List.mem_cons, true_or, or_true]
theorem entry2 : law19_entry 1000 nm2 = some true := by kernel_rfl
theorem mem3 : nm3 ∈ namesL := by unfold namesL; simp only [List.mem_cons, true_or, or_true]
theorem entry3 : law19_entry 1000 nm3 = some true := by kernel_rfl
theorem mem4 : nm4 ∈ namesL := by unfold namesL; simp only [List.mem_cons, true_or, or_true]
theorem entry4 : law19_entry 1000 nm4 = some true := by kernel_rfl
theorem mem5 : nm5 ∈ namesL := by unfold namesL; simp only [List.mem_cons, true_or, or_true]
theorem entry5 : law19_entry 1000 nm5 = some true := by kernel_rfl
theorem mem6 : nm6 ∈ namesL := by unfold namesL; simp only [List.mem_cons, true_or, or_true]
theorem entry6 : law19_entry 1000 nm6 = some true := by kernel_rfl
theorem mem7 : nm7 ∈ namesL := by unfold namesL; simp only [List.mem_cons, true_or, or_true]
theorem entry7 : law19_entry 1000 nm7 = some true := by kernel_rfl
theorem mem8 : nm8 ∈ namesL := by unfold namesL; simp only [List.mem_cons, true_or, or_true]
theorem entry8 : law19_entry 1000 nm8 = some true := by kernel_rfl
theorem mem9 : nm9 ∈ namesL := by unfold namesL; simp only [List.mem_cons, true_or, or_true]
theorem entry9 : law19_entry 1000 nm9 = some true := by kernel_rfl
theorem mem10 : nm10 ∈ namesL := by unfold namesL; simp only [List.mem_cons, true_or, or_true]
theorem entry10 : law19_entry 1000 nm10 = some true := by kernel_rfl
theorem mem11 : nm11 ∈ namesL := by unfold namesL; simp only [List.mem_cons, true_or, or_true]
theorem entry11 : law19_entry 1000 nm11 = some true := by kernel_rfl
theorem mem12 : nm12 ∈ namesL := by unfold namesL; simp only [List.mem_cons, true_or, or_true]
theorem entry12 : law19_entry 1000 nm12 = some true := by kernel_rfl
theorem mem13 : nm13 ∈ namesL := by unfold namesL; simp only [List.mem_cons, true_or, or_true]
theorem entry13 : law19_entry 1000 nm13 = some true := by kernel_rfl
theorem mem14 : nm14 ∈ namesL := by unfold namesL; simp only [List.mem_cons, true_or, or_true]
theorem entry14 : law19_entry 1000 nm14 = some true := by kernel_rfl
theorem mem15 : nm15 ∈ namesL := by unfold namesL; simp only [List.mem_cons, true_or, or_true]
theorem entry15 : law19_entry 1000 nm15 = some true := by kernel_rfl
theorem mem16 : nm16 ∈ namesL := by unfold namesL; simp only [List.mem_cons, true_or, or_true]
theorem entry16 : law19_entry 1000 nm16 = some true := by kernel_rfl
theorem mem17 : nm17 ∈ namesL := by unfold namesL; simp only [List.mem_cons, true_or, or_true]
theorem entry17 : law19_entry 1000 nm17 = some true := by kernel_rfl
theorem mem18 : nm18 ∈ namesL := by unfold namesL; simp only [List.mem_cons, true_or, or_true]
theorem entry18 : law19_entry 1000 nm18 = some true := by kernel_rfl
theorem mem19 : nm19 ∈ namesL := by unfold namesL; simp only [List.mem_cons, true_or, or_true]
theorem entry19 : law19_entry 1000 nm19 = some true := by kernel_rfl
theorem mem20 : nm20 ∈ namesL := by unfold namesL; simp only [List.mem_cons, true_or, or_true]
theorem entry20 : law19_entry 1000 nm20 = some true := by kernel_rfl
section
variable {s : ByteArray} (hn : s ∉ namesL)
include hn
theorem no0 : (s.toList == (⟨#[97, 115, 115, 105, 103, 110]⟩ : ByteArray).toList) = false := neN fun e => hn (by subst e; exact mem0)
theorem no1 : (s.toList == (⟨#[112, 114, 105, 109, 101]⟩ : ByteArray).toList) = false := neN fun e => hn (by subst e; exact mem1)
theorem no2 : (s.toList == (⟨#[99, 104, 111, 111, 115, 101]⟩ : ByteArray).toList) = false := neN fun e => hn (by subst e; exact mem2)
theorem no3 : (s.toList == (⟨#[116, 101, 115, 116]⟩ : ByteArray).toList) = false := neN fun e => hn (by subst e; exact mem3)
theorem no4 : (s.toList == (⟨#[99, 104, 111, 105, 99, 101]⟩ : ByteArray).toList) = false := neN fun e => hn (by subst e; exact mem4)
theorem no5 : (s.toList == (⟨#[99, 111, 109, 112, 111, 115, 101]⟩ : ByteArray).toList) = false := neN fun e => hn (by subst e; exact mem5)
theorem no6 : (s.toList == (⟨#[105, 116, 101, 114, 97, 116, 101]⟩ : ByteArray).toList) = false := neN fun e => hn (by subst e; exact mem6)
theorem no7 : (s.toList == (⟨#[100, 117, 97, 108]⟩ : ByteArray).toList) = false := neN fun e => hn (by subst e; exact mem7)
theorem no8 : (s.toList == (⟨#[100, 105, 97, 109, 111, 110, 100]⟩ : ByteArray).toList) = false := neN fun e => hn (by subst e; exact mem8)
theorem no9 : (s.toList == (⟨#[75]⟩ : ByteArray).toList) = false := neN fun e => hn (by subst e; exact mem9)
theorem no10 : (s.toList == (⟨#[86]⟩ : ByteArray).toList) = false := neN fun e => hn (by subst e; exact mem10)
theorem no11 : (s.toList == (⟨#[73]⟩ : ByteArray).toList) = false := neN fun e => hn (by subst e; exact mem11)
theorem no12 : (s.toList == (⟨#[68, 87]⟩ : ByteArray).toList) = false := neN fun e => hn (by subst e; exact mem12)
theorem no13 : (s.toList == (⟨#[68, 67]⟩ : ByteArray).toList) = false := neN fun e => hn (by subst e; exact mem13)
theorem no14 : (s.toList == (⟨#[68, 69]⟩ : ByteArray).toList) = false := neN fun e => hn (by subst e; exact mem14)
theorem no15 : (s.toList == (⟨#[97, 108, 108, 105]⟩ : ByteArray).toList) = false := neN fun e => hn (by subst e; exact mem15)
theorem no16 : (s.toList == (⟨#[97, 108, 108, 86]⟩ : ByteArray).toList) = false := neN fun e => hn (by subst e; exact mem16)
theorem no17 : (s.toList == (⟨#[97, 108, 108, 75]⟩ : ByteArray).toList) = false := neN fun e => hn (by subst e; exact mem17)
theorem no18 : (s.toList == (⟨#[101, 120, 105, 115, 116, 115]⟩ : ByteArray).toList) = false := neN fun e => hn (by subst e; exact mem18)
theorem no19 : (s.toList == (⟨#[114, 101, 102, 108]⟩ : ByteArray).toList) = false := neN fun e => hn (by subst e; exact mem19)
theorem no20 : (s.toList == (⟨#[120, 39]⟩ : ByteArray).toList) = false := neN fun e => hn (by subst e; exact mem20)
theorem text_other : axiom_Text 1000 s = some (⟨#[]⟩, 190) := by
 unfold axiom_Text
 simp only [no0 hn, no1 hn, no2 hn, no3 hn, no4 hn, no5 hn, no6 hn, no7 hn, no8 hn, no9 hn, no10 hn, no11 hn, no12 hn, no13 hn, no14 hn, no15 hn, no16 hn, no17 hn, no18 hn, no19 hn, no20 hn, Bool.false_eq_true, if_false]
omit hn in
theorem tab_in : ∀ i, i < 21 → ∃ x, tableL[2 * i]? = some x ∧ x ∈ namesL := by
 intro i hi
 have h : ((List.range 21).all fun i => (tableL[2 * i]?).any fun x => namesL.any fun y => y.data.toList == x.data.toList) = true := by kernel_rfl
 have := List.all_eq_true.1 h i (by simpa using hi)
 cases hx : tableL[2 * i]? with
 | none => rw [hx] at this; cases this
 | some x =>
  rw [hx] at this
  simp only [Option.any_some, List.any_eq_true] at this
  obtain ⟨y, hy, he⟩ := this
  have he : y.data.toList = x.data.toList := by simpa using he
  have : y = x := by cases y with | mk a => cases x with | mk b => congr 1; exact Array.toList_inj.1 he
  exact ⟨x, rfl, this ▸ hy⟩
theorem rtext_other : r19_Text 1000 s = some (⟨#[]⟩, 190) := by
 unfold r19_Text r19_table
 simp only [Option.bind_some]
 have hlen : tableL.length = 42 := by kernel_rfl
 refine ob (Out.go () : Out Unit (ByteArray × Int)) (foldG 21 (fun i => ((2 * i : Nat) : Int)) (Out.go () : Out Unit (ByteArray × Int)) (fun g i hi => ?_) (fun g => ?_) (by omega) rfl) rfl
 ·obtain ⟨x, hx, hm⟩ := tab_in i hi
  have hf : (x.toList == s.toList) = false := neN fun e => hn (by rw [← e]; exact hm)
  rw [hlen, if_pos (decide_eq_true (by omega)), idx_nat, hx, Option.bind_some, hf, if_neg (by simp), w64 (by omega) (by omega)]
  congr 1
 ·rw [hlen, if_neg (by simp)]
theorem get_other : axiom_Get 1000 s = some (NodeA.mk 0 ⟨#[]⟩ (RatA.mk false [] []) [], 190) := by
 unfold axiom_Get; rw [text_other hn]; rfl
theorem rget_other : r19_Get 1000 s = some (NodeA.mk 0 ⟨#[]⟩ (RatA.mk false [] []) [], 190) := by
 unfold r19_Get; rw [rtext_other hn]; rfl
theorem uses_other : axiom_Uses 1000 s = some ([], 190) := by
 unfold axiom_Uses; rw [get_other hn]; rfl
theorem ruses_other : r19_Uses 1000 s = some ([], 190) := by
 unfold r19_Uses; rw [rget_other hn]; rfl
theorem entry_other : law19_entry 1000 s = some true := by
 unfold law19_entry
 rw [text_other hn, rtext_other hn, get_other hn, rget_other hn, uses_other hn, ruses_other hn]
 kernel_rfl
end
theorem entry_all (s : ByteArray) : law19_entry 1000 s = some true := by
 by_cases h : s ∈ namesL
 ·unfold namesL at h
  simp only [List.mem_cons, List.not_mem_nil, or_false] at h
  rcases h with rfl | rfl | rfl | rfl | rfl | rfl | rfl | rfl | rfl | rfl | rfl | rfl | rfl | rfl | rfl | rfl | rfl | rfl | rfl | rfl | rfl
  ·exact entry0
  ·exact entry1
  ·exact entry2
  ·exact entry3
  ·exact entry4
  ·exact entry5
  ·exact entry6
  ·exact entry7
  ·exact entry8
  ·exact entry9
  ·exact entry10
  ·exact entry11
  ·exact entry12
  ·exact entry13
  ·exact entry14
  ·exact entry15
  ·exact entry16
  ·exact entry17
  ·exact entry18
  ·exact entry19
  ·exact entry20
 ·exact entry_other h
theorem table_first (s : ByteArray) : law19_AxiomTable 1000 s = (law19_entry 1000 s).bind fun r => some r := by kernel_rfl
theorem AxiomTable_law (s : ByteArray) : ∃ K, law19_AxiomTable K s = some true := ⟨1000, by rw [table_first, entry_all]; rfl⟩
end Go.Proofs.YtafipfdohicfbaaGreat
