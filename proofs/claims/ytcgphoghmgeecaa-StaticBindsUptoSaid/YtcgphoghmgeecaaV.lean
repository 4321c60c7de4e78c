/- The lemmas by which the conditions are reckoned, tagged. No condition. -/
import Derived.Test.YtcgphoghmgeecaaT
namespace Go.Proofs.Ytcgphoghmgeecaa
open Go Go.Iso Go.Proofs
attribute [go_sem ↓] Later_apply vc_skip vc_region vc_seq vc_cond vc_block vc_exit vc_ret
attribute [go_sem ↓] vc_loop loopV_zero loopV_one loopV_two loopV_three thenQ_normal thenQ_ret thenQ_exit
attribute [go_sem ↓] blockQ_normal blockQ_ret blockQ_exit retQ_normal retQ_ret resK_nil resK_one resK_two
attribute [go_sem ↓] resK_three oneR_tmp oneR_cell vcOps_nil vcOps_cons vcOps_guard wv_move wv_nilCheck
attribute [go_sem ↓] wv_assign wv_pick wv_load wv_fieldAddr wv_field wv_indexAddr wv_binOp wv_unOp
attribute [go_sem ↓] wv_convert wv_extract wv_makeFunc wv_index wv_len wv_min wv_max wv_call_t
attribute [go_sem ↓] wv_call_f wv_store wv_alloc wv_box wv_build wv_slice wv_buildSlice wv_makeSlice
attribute [go_sem ↓] wv_append del_at hpA_at endH_nil endH_cons updH_nil updH_cons inH_nil
attribute [go_sem ↓] inH_cons mkR_eq hpO_at okR_cons okR_nil inR_cons inR_nil rangeB_zero
attribute [go_sem ↓] rangeB_succ roundC_eq guardV_list dstL_zero dstL_succ slotV_some evO_tmp evO_const
attribute [go_sem ↓] evO_func putF_at putF_none upd_at argF_at mkS_eq frL_cons frL_nil
attribute [go_sem ↓] hpL_cons hpL_nil okF_cons okF_nil okH_cons okH_nil okRows_cons okRows_nil
attribute [go_sem ↓] refs_d refs_any refs_iptr refs_ptr refs_msl refs_agg refs_tup refs_fn
attribute [go_sem ↓] refsL_nil refsL_cons refsL_data LoopQ List.length_cons List.length_nil List.getElem?_cons_zero List.getElem?_cons_succ
attribute [go_sem ↓] List.drop_succ_cons List.drop_zero
attribute [go_sem] splitK_true splitK_false condK_val guardK_t guardK_f guardK_tup pickK_val numK_eq
attribute [go_sem] moveK_eq optK_some' loadK_iptr loadK_ptr ldV_t ldV_f fldK_iptr fldK_ptr
attribute [go_sem] partK_agg idxK_sl idxK_msl valK_val bopV_val uopV_val cvV_val extK_tup
attribute [go_sem] strK_val mmV_f mmV_t storeK_ptr rowK_eq boxK_agg boxK_d allocK_some
attribute [go_sem] constV_int constV_bool constV_string constV_slice constV_nilFunc constV_pointer constV_map constV_agg
attribute [go_sem] constC_int constC_bool constC_string constC_slice constC_nilFunc constC_pointer constC_map toRow_agg
attribute [go_sem] toRow_d toRow_ptr toRow_msl toRow_fn one_d one_ptr one_msl one_fn
attribute [go_sem] rowOk_agg rowOk_d rowOk_ptr rowOk_msl rowOk_fn bop_add bop_sub bop_mul
attribute [go_sem] bop_eql bop_neq bop_lss bop_leq bop_gtr bop_geq bop_str_eql bop_str_neq
attribute [go_sem] bop_str_lss bop_str_leq bop_str_gtr bop_str_geq bop_bool_eql bop_bool_neq uop_not uop_neg
attribute [go_sem] bop_shr1 join_some inO_none inO_some accV_nil accO_nil renV_acc refs_acc
attribute [go_sem] inO_acc renRows_data List.nodup_cons List.nodup_nil not_false_eq_true or_self renRow_nil renRow_cons
attribute [go_sem] renRows_nil renRows_cons renV_any renV_d renV_iptr renV_ptr renV_msl renV_agg
attribute [go_sem] renV_tup renV_fn renRow_data List.getD_cons_zero List.getD_cons_succ strAt_nat putRow bldK_some
attribute [go_sem] stepB_some bldV_nil bldV_cons optBind_some asDs_nil asDs_cons asDs_data asDs_msl
attribute [go_sem] asDs_ptr asDs_fn asRows_nil asRows_cons asRowsC_some asRowsC_none asRowsC_none' bsK_some
attribute [go_sem] bsF_some bsF_zero bsF_none inOrder_nil inOrder_cons mkK_some cutK_str cutK_sl
attribute [go_sem] sliceK_map nilK_ptr nilK_iptr boundV_none boundV_some intOfV_int beq_self_eq_true Bool.and_self
attribute [go_sem] Bool.and_true Bool.true_and ldV_node ldV_cert ldV_proof ldV_pair ldV_pair0 ldV_pair1
attribute [go_sem] ldV_pair2 all_one List.map_drop ldV_step NodeA.enc_mk CertA.enc_mk ProofA.enc_mk RatA.enc
attribute [go_sem] MonoA.enc PolyA.enc SquareA.enc NodeA.enc_len CertA.enc_len ProofA.enc_len PairA.enc_len StepA.enc_len
attribute [go_sem] List.map_cons List.map_nil List.map_append List.cons_append List.nil_append List.append_nil List.length_map List.drop_nil
attribute [go_sem] List.take_succ_cons List.take_zero List.take_nil List.head?_cons List.getElem?_nil List.getElem?_map List.set_cons_zero List.set_cons_succ
attribute [go_sem] Option.getD_some Option.getD_none Option.map_some true_and and_true and_self Bool.false_eq_true Bool.true_eq_false
attribute [go_sem] Bool.not_true Bool.not_false List.mem_cons List.not_mem_nil or_false forall_eq forall_eq_or_imp Nat.zero_add
attribute [go_sem] Nat.add_zero Nat.le_refl Int.toNat_natCast Int.natCast_nonneg Nat.add_assoc
attribute [go_sem] sz1 ag1 zo1 sz2 ag2 zo2 sz3 ag3
attribute [go_sem] zo3 sz4 ag4 zo4 bo4 sz5 ag5 zo5
attribute [go_sem] sz6 ag6 zo6 sz7 ag7 zo7 st7 pl7_0
attribute [go_sem] fd7_0 pt7_0 pl7_1 fd7_1 pt7_1 pl7_2 fd7_2 pt7_2
attribute [go_sem] pl7_3 fd7_3 pt7_3 sz8 ag8 zo8 st8 pl8_0
attribute [go_sem] fd8_0 pt8_0 pl8_1 fd8_1 pt8_1 pl8_2 fd8_2 pt8_2
attribute [go_sem] pl8_3 fd8_3 pt8_3 sz9 ag9 zo9 sq9 ls9
attribute [go_sem] us9 sz10 ag10 zo10 sq10 ls10 us10 sz11
attribute [go_sem] ag11 zo11 sq11 ls11 us11 sz12 ag12 zo12
attribute [go_sem] sz13 ag13 zo13 st13 pl13_0 fd13_0 pt13_0 pl13_1
attribute [go_sem] fd13_1 pt13_1 sz14 ag14 zo14 st14 pl14_0 fd14_0
attribute [go_sem] pt14_0 pl14_1 fd14_1 pt14_1 sz15 ag15 zo15 sz16
attribute [go_sem] ag16 zo16 sz17 ag17 zo17 sz18 ag18 zo18
attribute [go_sem] st18 pl18_0 fd18_0 pt18_0 sz19 ag19 zo19 st19
attribute [go_sem] pl19_0 fd19_0 pt19_0 sz21 ag21 zo21 sz22 ag22
attribute [go_sem] zo22 sq22 el22 es22 et22 ln22 lz22 lm22
attribute [go_sem] sz23 ag23 zo23 st23 pl23_0 fd23_0 pt23_0 pl23_1
attribute [go_sem] fd23_1 pt23_1 sz24 ag24 zo24 st24 pl24_0 fd24_0
attribute [go_sem] pt24_0 pl24_1 fd24_1 pt24_1 sz25 ag25 zo25 sz26
attribute [go_sem] ag26 zo26 sz27 ag27 zo27 sz28 ag28 zo28
attribute [go_sem] sz30 ag30 zo30 sz31 ag31 zo31 sz33 ag33
attribute [go_sem] zo33 sz34 ag34 zo34 sz35 ag35 zo35 sz36
attribute [go_sem] ag36 zo36 sq36 el36 es36 et36 ln36 lz36
attribute [go_sem] lm36 sz37 ag37 zo37 st37 pl37_0 fd37_0 pt37_0
attribute [go_sem] pl37_1 fd37_1 pt37_1 pl37_2 fd37_2 pt37_2 sz38 ag38
attribute [go_sem] zo38 st38 pl38_0 fd38_0 pt38_0 pl38_1 fd38_1 pt38_1
attribute [go_sem] pl38_2 fd38_2 pt38_2 sz39 ag39 zo39 sq39 el39
attribute [go_sem] es39 et39 ln39 lz39 lm39 sz40 ag40 zo40
attribute [go_sem] st40 pl40_0 fd40_0 pt40_0 pl40_1 fd40_1 pt40_1 pl40_2
attribute [go_sem] fd40_2 pt40_2 pl40_3 fd40_3 pt40_3 sz41 ag41 zo41
attribute [go_sem] st41 pl41_0 fd41_0 pt41_0 pl41_1 fd41_1 pt41_1 pl41_2
attribute [go_sem] fd41_2 pt41_2 pl41_3 fd41_3 pt41_3 sz42 ag42 zo42
attribute [go_sem] sz43 ag43 zo43 sz44 ag44 zo44 sz45 ag45
attribute [go_sem] zo45 sz46 ag46 zo46 sq46 el46 es46 et46
attribute [go_sem] ln46 lz46 lm46 sz48 ag48 zo48 sz49 ag49
attribute [go_sem] zo49 sz50 ag50 zo50 sz51 ag51 zo51 sz52
attribute [go_sem] ag52 zo52 sz53 ag53 zo53 sz54 ag54 zo54
attribute [go_sem] sz55 ag55 zo55 sz56 ag56 zo56 sz57 ag57
attribute [go_sem] zo57 sz58 ag58 zo58 sz59 ag59 zo59 sz60
attribute [go_sem] ag60 zo60 sz61 ag61 zo61 sz62 ag62 zo62
attribute [go_sem] sz63 ag63 zo63 sz64 ag64 zo64 sz65 ag65
attribute [go_sem] zo65 sz66 ag66 zo66 sz67 ag67 zo67 sz68
attribute [go_sem] ag68 zo68 sz69 ag69 zo69 sz70 ag70 zo70
attribute [go_sem] sz71 ag71 zo71 sz72 ag72 zo72 sz73 ag73
attribute [go_sem] zo73 sz74 ag74 zo74 sz75 ag75 zo75 sz76
attribute [go_sem] ag76 zo76 sz77 ag77 zo77 sz78 ag78 zo78
attribute [go_sem] sz79 ag79 zo79 st79 pl79_0 fd79_0 pt79_0 pl79_1
attribute [go_sem] fd79_1 pt79_1 pl79_2 fd79_2 pt79_2 sz80 ag80 zo80
attribute [go_sem] st80 pl80_0 fd80_0 pt80_0 pl80_1 fd80_1 pt80_1 pl80_2
attribute [go_sem] fd80_2 pt80_2 sz81 ag81 zo81 sz83 ag83 zo83
attribute [go_sem] sz84 ag84 zo84 sz85 ag85 zo85 sz86 ag86
attribute [go_sem] zo86 sz87 ag87 zo87 sz88 ag88 zo88 sz90
attribute [go_sem] ag90 zo90 sz91 ag91 zo91 sz92 ag92 zo92
attribute [go_sem] sz93 ag93 zo93 sz95 ag95 zo95 sz96 ag96
attribute [go_sem] zo96 sz97 ag97 zo97 sz98 ag98 zo98 sz99
attribute [go_sem] ag99 zo99 sz100 ag100 zo100 sz101 ag101 zo101
attribute [go_sem] sz102 ag102 zo102 sz103 ag103 zo103 sz104 ag104
attribute [go_sem] zo104 sz105 ag105 zo105 sz106 ag106 zo106 sz108
attribute [go_sem] ag108 zo108 sz110 ag110 zo110 sz112 ag112 zo112
attribute [go_sem] sz113 ag113 zo113 sz114 ag114 zo114 sz116 ag116
attribute [go_sem] zo116 sz117 ag117 zo117 sz118 ag118 zo118 sz119
attribute [go_sem] ag119 zo119 sz121 ag121 zo121 sz122 ag122 zo122
attribute [go_sem] sz123 ag123 zo123 sz124 ag124 zo124
end Go.Proofs.Ytcgphoghmgeecaa
