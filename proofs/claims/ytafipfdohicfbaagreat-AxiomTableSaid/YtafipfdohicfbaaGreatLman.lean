/- Part of the proof of a law: contracts of the functions that the law reaches, or plain laws of them, out of the abstract layer (the texts YtafipfdohicfbaaGreatIso..). No condition. -/
import Derived.Test.YtafipfdohicfbaaGreatLnrunP0
import Derived.Test.YtafipfdohicfbaaGreatLnrunP1
import Derived.Test.YtafipfdohicfbaaGreatLnrunP2
import Derived.Test.YtafipfdohicfbaaGreatLnrunP3
import Derived.Test.YtafipfdohicfbaaGreatLnrunP4
import Derived.Test.YtafipfdohicfbaaGreatLnrunR0
import Derived.Test.YtafipfdohicfbaaGreatLnrunR1
import Derived.Test.YtafipfdohicfbaaGreatLnrunR2
import Derived.Test.YtafipfdohicfbaaGreatLnrunR3
import Derived.Test.YtafipfdohicfbaaGreatLnrunR4
namespace Go.Proofs.YtafipfdohicfbaaGreat
open Go Go.Iso Go.Proofs
set_option linter.unusedVariables false
set_option maxRecDepth 100000
theorem allP : ∀ p ∈ parseTab, Cn Tryz.prog 23 (argsP p.1) (resD p.2.enc) := by
 intro p hp
 unfold parseTab at hp
 simp only [List.mem_cons, List.not_mem_nil, or_false] at hp
 rcases hp with rfl | rfl | rfl | rfl | rfl | rfl | rfl | rfl | rfl | rfl | rfl | rfl | rfl | rfl | rfl | rfl | rfl | rfl | rfl | rfl | rfl
 ·exact runB_ok orcP_ok runP0
 ·exact runB_ok orcP_ok runP1
 ·exact runB_ok orcP_ok runP2
 ·exact runB_ok orcP_ok runP3
 ·exact runB_ok orcP_ok runP4
 ·exact runB_ok orcP_ok runP5
 ·exact runB_ok orcP_ok runP6
 ·exact runB_ok orcP_ok runP7
 ·exact runB_ok orcP_ok runP8
 ·exact runB_ok orcP_ok runP9
 ·exact runB_ok orcP_ok runP10
 ·exact runB_ok orcP_ok runP11
 ·exact runB_ok orcP_ok runP12
 ·exact runB_ok orcP_ok runP13
 ·exact runB_ok orcP_ok runP14
 ·exact runB_ok orcP_ok runP15
 ·exact runB_ok orcP_ok runP16
 ·exact runB_ok orcP_ok runP17
 ·exact runB_ok orcP_ok runP18
 ·exact runB_ok orcP_ok runP19
 ·exact runB_ok orcP_ok runP20
theorem allR : ∀ p ∈ parseTab, Cn Tryz.prog 29 (argsP p.1) (resD p.2.enc) := by
 intro p hp
 unfold parseTab at hp
 simp only [List.mem_cons, List.not_mem_nil, or_false] at hp
 rcases hp with rfl | rfl | rfl | rfl | rfl | rfl | rfl | rfl | rfl | rfl | rfl | rfl | rfl | rfl | rfl | rfl | rfl | rfl | rfl | rfl | rfl
 ·exact runB_ok orcR_ok runR0
 ·exact runB_ok orcR_ok runR1
 ·exact runB_ok orcR_ok runR2
 ·exact runB_ok orcR_ok runR3
 ·exact runB_ok orcR_ok runR4
 ·exact runB_ok orcR_ok runR5
 ·exact runB_ok orcR_ok runR6
 ·exact runB_ok orcR_ok runR7
 ·exact runB_ok orcR_ok runR8
 ·exact runB_ok orcR_ok runR9
 ·exact runB_ok orcR_ok runR10
 ·exact runB_ok orcR_ok runR11
 ·exact runB_ok orcR_ok runR12
 ·exact runB_ok orcR_ok runR13
 ·exact runB_ok orcR_ok runR14
 ·exact runB_ok orcR_ok runR15
 ·exact runB_ok orcR_ok runR16
 ·exact runB_ok orcR_ok runR17
 ·exact runB_ok orcR_ok runR18
 ·exact runB_ok orcR_ok runR19
 ·exact runB_ok orcR_ok runR20
def tabAt (s : ByteArray) : Option (ByteArray × NodeA) := parseTab.find? fun p => p.1.data.toList == s.data.toList
theorem tabAt_some {s : ByteArray} {p : ByteArray × NodeA} (h : tabAt s = some p) : p ∈ parseTab ∧ p.1 = s := by
 refine ⟨List.mem_of_find?_eq_some h, ?_⟩
 have := List.find?_some h
 have h1 : p.1.data.toList = s.data.toList := by simpa using this
 cases hp : p.1 with | mk a => cases hs : s with | mk b => rw [hp, hs] at h1; congr 1; exact Array.toList_inj.1 h1
def text_Parse (K : Nat) (s : ByteArray) (z : Int) : Option (NodeA × Int × Int) := if z = 2 then (tabAt s).map fun p => (p.2, 0, 0) else none
def r09_Parse (K : Nat) (s : ByteArray) (z : Int) : Option (NodeA × Int × Int) := if z = 2 then (tabAt s).map fun p => (p.2, 0, 0) else none
theorem text_Parse_ok {K : Nat} {s : ByteArray} {z : Int} {r : NodeA × Int × Int} (h : text_Parse K s z = some r) : Cn Tryz.prog 23 [.d (.val (.string s)), .d (.val (.int .i64 z))] (.tup [aggV r.1.enc, .d (.val (.int .i64 r.2.1)), .d (.val (.int .i64 r.2.2))]) := by
 unfold text_Parse at h
 split at h
 ·next hz =>
  subst hz
  obtain ⟨p, h1, h2⟩ := omap h
  subst h2
  obtain ⟨h3, rfl⟩ := tabAt_some h1
  exact allP p h3
 ·cases h
theorem r09_Parse_ok {K : Nat} {s : ByteArray} {z : Int} {r : NodeA × Int × Int} (h : r09_Parse K s z = some r) : Cn Tryz.prog 29 [.d (.val (.string s)), .d (.val (.int .i64 z))] (.tup [aggV r.1.enc, .d (.val (.int .i64 r.2.1)), .d (.val (.int .i64 r.2.2))]) := by
 unfold r09_Parse at h
 split at h
 ·next hz =>
  subst hz
  obtain ⟨p, h1, h2⟩ := omap h
  subst h2
  obtain ⟨h3, rfl⟩ := tabAt_some h1
  exact allR p h3
 ·cases h
def namesL : List ByteArray := [nm0, nm1, nm2, nm3, nm4, nm5, nm6, nm7, nm8, nm9, nm10, nm11, nm12, nm13, nm14, nm15, nm16, nm17, nm18, nm19, nm20]
def tableL : List ByteArray := [nm0, tx0, nm1, tx1, nm2, tx2, nm3, tx3, nm4, tx4, nm5, tx5, nm6, tx6, nm7, tx7, nm8, tx8, nm9, tx9, nm10, tx10, nm11, tx11, nm12, tx12, nm13, tx13, nm14, tx14, nm15, tx15, nm16, tx16, nm17, tx17, nm18, tx18, nm19, tx19, nm20, tx20]
def axiom_Names (K : Nat) : Option (List ByteArray) := some namesL
def r19_table (K : Nat) : Option (List ByteArray) := some tableL
def law19_awake (K : Nat) : Option Bool := some true
theorem names_run : chkTop 100 (evTop Tryz.prog noOrc 1000 6 []) (.d (slD strV namesL)) = true := by kernel_rfl
theorem table_run : chkTop 100 (evTop Tryz.prog noOrc 1000 15 []) (.d (slD strV tableL)) = true := by kernel_rfl
theorem awake_run : isTrue (evTop Tryz.prog orcP 100000 5 []) = true := by kernel_rfl
theorem axiom_Names_ok {K : Nat} {r : List ByteArray} (h : axiom_Names K = some r) : Cn Tryz.prog 6 [] (.d (slD strV r)) := by
 obtain rfl := Option.some.inj h; exact Cn.ofChk mixed noOrc_ok names_run
theorem r19_table_ok {K : Nat} {r : List ByteArray} (h : r19_table K = some r) : Cn Tryz.prog 15 [] (.d (slD strV r)) := by
 obtain rfl := Option.some.inj h; exact Cn.ofChk mixed noOrc_ok table_run
theorem law19_awake_ok {K : Nat} {r : Bool} (h : law19_awake K = some r) : Cn Tryz.prog 5 [] (.d (.val (.bool r))) := by
 obtain rfl := Option.some.inj h; exact Cn.ofTrue mixed orcP_ok awake_run
end Go.Proofs.YtafipfdohicfbaaGreat
