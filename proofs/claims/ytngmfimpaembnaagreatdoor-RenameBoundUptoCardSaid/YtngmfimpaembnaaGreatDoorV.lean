/- The lemmas by which the conditions are reckoned, tagged. No condition. -/
import Derived.Test.YtngmfimpaembnaaGreatDoorT
namespace Go.Proofs.YtngmfimpaembnaaGreatDoor
open Go Go.Iso Go.Proofs
attribute [go_sem ↓] Later_apply vc_skip vc_region vc_seq vc_cond vc_block vc_exit vc_ret
attribute [go_sem ↓] vc_loop loopV_zero loopV_one loopV_two loopV_three thenQ_normal thenQ_ret thenQ_exit
attribute [go_sem ↓] blockQ_normal blockQ_ret blockQ_exit retQ_normal retQ_ret resK_nil resK_one resK_two
attribute [go_sem ↓] resK_three oneR_tmp oneR_cell vcOps_nil vcOps_cons vcOps_guard wv_move wv_nilCheck
attribute [go_sem ↓] wv_assign wv_pick wv_load wv_fieldAddr wv_field wv_indexAddr wv_binOp wv_unOp
attribute [go_sem ↓] wv_convert wv_copy wv_extract wv_makeFunc wv_index wv_len wv_min wv_max
attribute [go_sem ↓] wv_call_t wv_call_f wv_store wv_alloc wv_box wv_build wv_slice wv_buildSlice
attribute [go_sem ↓] wv_makeSlice wv_append del_at hpA_at endH_nil endH_cons updH_nil updH_cons
attribute [go_sem ↓] inH_nil inH_cons mkR_eq hpO_at okR_cons okR_nil inR_cons inR_nil
attribute [go_sem ↓] rangeB_zero rangeB_succ roundC_eq guardV_list dstL_zero dstL_succ slotV_some evO_tmp
attribute [go_sem ↓] evO_const evO_func putF_at putF_none upd_at argF_at mkS_eq frL_cons
attribute [go_sem ↓] frL_nil hpL_cons hpL_nil okF_cons okF_nil okH_cons okH_nil okRows_cons
attribute [go_sem ↓] okRows_nil refs_d refs_any refs_iptr refs_ptr refs_msl refs_agg refs_tup
attribute [go_sem ↓] refs_fn refsL_nil refsL_cons refsL_data LoopQ List.length_cons List.length_nil List.getElem?_cons_zero
attribute [go_sem ↓] List.getElem?_cons_succ List.drop_succ_cons List.drop_zero
attribute [go_sem] splitK_true splitK_false condK_val guardK_t guardK_f guardK_tup pickK_val numK_eq
attribute [go_sem] moveK_eq optK_some' loadK_iptr loadK_ptr ldV_t ldV_f fldK_iptr fldK_ptr
attribute [go_sem] partK_agg idxK_sl idxK_msl valK_val bopV_val uopV_val cvV_val cnvK_int
attribute [go_sem] cnvK_str extK_tup strK_val mmV_f mmV_t storeK_ptr rowK_eq boxK_agg
attribute [go_sem] boxK_d allocK_some constV_int constV_bool constV_string constV_slice constV_nilFunc constV_pointer
attribute [go_sem] constV_map constV_agg constC_int constC_bool constC_string constC_slice constC_nilFunc constC_pointer
attribute [go_sem] constC_map toRow_agg toRow_d toRow_ptr toRow_msl toRow_fn one_d one_ptr
attribute [go_sem] one_msl one_fn rowOk_agg rowOk_d rowOk_ptr rowOk_msl rowOk_fn bop_add
attribute [go_sem] bop_sub bop_mul bop_eql bop_neq bop_lss bop_leq bop_gtr bop_geq
attribute [go_sem] bop_str_eql bop_str_neq bop_str_lss bop_str_leq bop_str_gtr bop_str_geq bop_bool_eql bop_bool_neq
attribute [go_sem] uop_not uop_neg bop_shr1 join_some inO_none inO_some accV_nil accO_nil
attribute [go_sem] renV_acc refs_acc inO_acc renRows_data List.nodup_cons List.nodup_nil not_false_eq_true or_self
attribute [go_sem] renRow_nil renRow_cons renRows_nil renRows_cons renV_any renV_d renV_iptr renV_ptr
attribute [go_sem] renV_msl renV_agg renV_tup renV_fn renRow_data List.getD_cons_zero List.getD_cons_succ strAt_nat
attribute [go_sem] putRow bldK_some stepB_some bldV_nil bldV_cons optBind_some asDs_nil asDs_cons
attribute [go_sem] asDs_data asDs_msl asDs_ptr asDs_fn asRows_nil asRows_cons asRowsC_some asRowsC_none
attribute [go_sem] asRowsC_none' bsK_some bsF_some bsF_zero bsF_none inOrder_nil inOrder_cons cutK_str
attribute [go_sem] cutK_sl sliceK_map nilK_ptr nilK_iptr boundV_none boundV_some intOfV_int beq_self_eq_true
attribute [go_sem] Bool.and_self Bool.and_true Bool.true_and ldV_node ldV_cert ldV_proof ldV_pair ldV_pair0
attribute [go_sem] ldV_pair1 ldV_pair2 all_one List.map_drop ldV_step NodeA.enc_mk CertA.enc_mk ProofA.enc_mk
attribute [go_sem] RatA.enc MonoA.enc PolyA.enc SquareA.enc NodeA.enc_len CertA.enc_len ProofA.enc_len PairA.enc_len
attribute [go_sem] StepA.enc_len List.map_cons List.map_nil List.map_append List.cons_append List.nil_append List.append_nil List.length_map
attribute [go_sem] List.drop_nil List.take_succ_cons List.take_zero List.take_nil List.head?_cons List.getElem?_nil List.getElem?_map List.set_cons_zero
attribute [go_sem] List.set_cons_succ Option.getD_some Option.getD_none Option.map_some true_and and_true and_self Bool.false_eq_true
attribute [go_sem] Bool.true_eq_false Bool.not_true Bool.not_false List.mem_cons List.not_mem_nil or_false forall_eq forall_eq_or_imp
attribute [go_sem] Nat.zero_add Nat.add_zero Nat.le_refl Int.toNat_natCast Int.natCast_nonneg Nat.add_assoc
attribute [go_sem] sz1 ag1 zo1 sz2 ag2 zo2 sz3 ag3
attribute [go_sem] zo3 sz4 ag4 zo4 bo4 sz5 ag5 zo5
attribute [go_sem] sz6 ag6 zo6 sz7 ag7 zo7 st7 pl7_0
attribute [go_sem] fd7_0 pt7_0 pl7_1 fd7_1 pt7_1 pl7_2 fd7_2 pt7_2
attribute [go_sem] pl7_3 fd7_3 pt7_3 sz8 ag8 zo8 st8 pl8_0
attribute [go_sem] fd8_0 pt8_0 pl8_1 fd8_1 pt8_1 pl8_2 fd8_2 pt8_2
attribute [go_sem] pl8_3 fd8_3 pt8_3 sz9 ag9 zo9 sq9 ls9
attribute [go_sem] us9 sz10 ag10 zo10 sq10 ls10 us10 sz11
attribute [go_sem] ag11 zo11 sq11 ls11 us11 sz12 ag12 zo12
attribute [go_sem] sz13 ag13 zo13 st13 pl13_0 fd13_0 pt13_0 pl13_1
attribute [go_sem] fd13_1 pt13_1 sz14 ag14 zo14 st14 pl14_0 fd14_0
attribute [go_sem] pt14_0 pl14_1 fd14_1 pt14_1 sz15 ag15 zo15 sz16
attribute [go_sem] ag16 zo16 sz17 ag17 zo17 sz18 ag18 zo18
attribute [go_sem] st18 pl18_0 fd18_0 pt18_0 sz19 ag19 zo19 st19
attribute [go_sem] pl19_0 fd19_0 pt19_0 sz21 ag21 zo21 sz22 ag22
attribute [go_sem] zo22 sq22 el22 es22 et22 ln22 lz22 lm22
attribute [go_sem] la22 sz23 ag23 zo23 st23 pl23_0 fd23_0 pt23_0
attribute [go_sem] pl23_1 fd23_1 pt23_1 pl23_2 fd23_2 pt23_2 sz24 ag24
attribute [go_sem] zo24 st24 pl24_0 fd24_0 pt24_0 pl24_1 fd24_1 pt24_1
attribute [go_sem] pl24_2 fd24_2 pt24_2 sz25 ag25 zo25 sq25 el25
attribute [go_sem] es25 et25 ln25 lz25 lm25 la25 sz26 ag26
attribute [go_sem] zo26 st26 pl26_0 fd26_0 pt26_0 pl26_1 fd26_1 pt26_1
attribute [go_sem] pl26_2 fd26_2 pt26_2 pl26_3 fd26_3 pt26_3 sz27 ag27
attribute [go_sem] zo27 st27 pl27_0 fd27_0 pt27_0 pl27_1 fd27_1 pt27_1
attribute [go_sem] pl27_2 fd27_2 pt27_2 pl27_3 fd27_3 pt27_3 sz28 ag28
attribute [go_sem] zo28 sq28 el28 es28 et28 ln28 lz28 lm28
attribute [go_sem] la28 sz29 ag29 zo29 sz30 ag30 zo30 sz31
attribute [go_sem] ag31 zo31 sz33 ag33 zo33 sz34 ag34 zo34
attribute [go_sem] sz35 ag35 zo35 sz36 ag36 zo36 sq36 el36
attribute [go_sem] es36 et36 ln36 lz36 lm36 la36 sz37 ag37
attribute [go_sem] zo37 st37 pl37_0 fd37_0 pt37_0 pl37_1 fd37_1 pt37_1
attribute [go_sem] sz38 ag38 zo38 st38 pl38_0 fd38_0 pt38_0 pl38_1
attribute [go_sem] fd38_1 pt38_1 sz39 ag39 zo39 sz40 ag40 zo40
attribute [go_sem] sz41 ag41 zo41 sz42 ag42 zo42 sz43 ag43
attribute [go_sem] zo43 sz44 ag44 zo44 sz46 ag46 zo46 sz47
attribute [go_sem] ag47 zo47 sz49 ag49 zo49 sz50 ag50 zo50
attribute [go_sem] sz51 ag51 zo51 sz53 ag53 zo53 sz54 ag54
attribute [go_sem] zo54 sz55 ag55 zo55 sz56 ag56 zo56 sz57
attribute [go_sem] ag57 zo57 sz58 ag58 zo58 sz60 ag60 zo60
attribute [go_sem] sz61 ag61 zo61 sz62 ag62 zo62 sz63 ag63
attribute [go_sem] zo63 sz65 ag65 zo65 sz66 ag66 zo66 sz67
attribute [go_sem] ag67 zo67 sz68 ag68 zo68 sz69 ag69 zo69
attribute [go_sem] sq69 el69 es69 et69 ln69 lz69 lm69 la69
attribute [go_sem] sz70 ag70 zo70 sz71 ag71 zo71 sz73 ag73
attribute [go_sem] zo73 sz74 ag74 zo74 sz75 ag75 zo75 sz76
attribute [go_sem] ag76 zo76 sz77 ag77 zo77 sz78 ag78 zo78
attribute [go_sem] sz79 ag79 zo79 sz80 ag80 zo80 sz81 ag81
attribute [go_sem] zo81 sz82 ag82 zo82 sz83 ag83 zo83 sz84
attribute [go_sem] ag84 zo84 sz85 ag85 zo85 sz86 ag86 zo86
attribute [go_sem] sz87 ag87 zo87 sz88 ag88 zo88 sz89 ag89
attribute [go_sem] zo89 sq89 el89 es89 et89 ln89 lz89 lm89
attribute [go_sem] la89 sz90 ag90 zo90 sz91 ag91 zo91 st91
attribute [go_sem] pl91_0 fd91_0 pt91_0 pl91_1 fd91_1 pt91_1 pl91_2 fd91_2
attribute [go_sem] pt91_2 sz92 ag92 zo92 st92 pl92_0 fd92_0 pt92_0
attribute [go_sem] pl92_1 fd92_1 pt92_1 pl92_2 fd92_2 pt92_2 sz93 ag93
attribute [go_sem] zo93 sz94 ag94 zo94 sz95 ag95 zo95 sz96
attribute [go_sem] ag96 zo96 sz97 ag97 zo97 sz98 ag98 zo98
attribute [go_sem] sz99 ag99 zo99 sz100 ag100 zo100 sz101 ag101
attribute [go_sem] zo101 sz102 ag102 zo102 sz103 ag103 zo103 sz105
attribute [go_sem] ag105 zo105 sz106 ag106 zo106 sz107 ag107 zo107
attribute [go_sem] sz108 ag108 zo108 sz109 ag109 zo109 sz110 ag110
attribute [go_sem] zo110 sz111 ag111 zo111 sz112 ag112 zo112 sz113
attribute [go_sem] ag113 zo113 sz115 ag115 zo115 sz116 ag116 zo116
attribute [go_sem] sz117 ag117 zo117 sz118 ag118 zo118 sz119 ag119
attribute [go_sem] zo119 sz120 ag120 sz121 ag121 zo121 sz122 ag122
attribute [go_sem] zo122 sz123 ag123 zo123 sz125 ag125 zo125 sz126
attribute [go_sem] ag126 zo126 sz127 ag127 zo127 sz128 ag128 zo128
attribute [go_sem] sz130 ag130 zo130 sz131 ag131 zo131 sz132 ag132
attribute [go_sem] zo132 sz133 ag133 zo133 sz134 ag134 zo134 sz135
attribute [go_sem] ag135 zo135 sz136 ag136 zo136 sz137 ag137 zo137
attribute [go_sem] sz138 ag138 zo138 sz139 ag139 zo139 sz140 ag140
attribute [go_sem] zo140 sz142 ag142 zo142 sz144 ag144 zo144 sz146
attribute [go_sem] ag146 zo146 sz147 ag147 zo147 sz148 ag148 zo148
attribute [go_sem] sz150 ag150 zo150 sz151 ag151 zo151 sz152 ag152
attribute [go_sem] zo152 sz153 ag153 zo153 sz155 ag155 zo155 sz156
attribute [go_sem] ag156 zo156 sz157 ag157 zo157 sz158 ag158 zo158
attribute [go_sem] sz159 ag159 zo159 sz160 ag160 zo160 st160 pl160_0
attribute [go_sem] fd160_0 pt160_0 pl160_1 fd160_1 pt160_1 pl160_2 fd160_2 pt160_2
attribute [go_sem] pl160_3 fd160_3 pt160_3 sz161 ag161 zo161 st161 pl161_0
attribute [go_sem] fd161_0 pt161_0 pl161_1 fd161_1 pt161_1 pl161_2 fd161_2 pt161_2
attribute [go_sem] pl161_3 fd161_3 pt161_3 sz162 ag162 sz163 ag163 st163
attribute [go_sem] pl163_0 sz164 ag164 st164 pl164_0 sz165 ag165 zo165
attribute [go_sem] sz166 ag166 zo166 sz167 ag167 zo167 sz168 ag168
attribute [go_sem] zo168 sz169 ag169 zo169 sz170 ag170 zo170 sz171
attribute [go_sem] ag171 zo171 sz172 ag172 zo172 st172 pl172_0 fd172_0
attribute [go_sem] pt172_0 pl172_1 fd172_1 pt172_1 pl172_2 fd172_2 pt172_2 pl172_3
attribute [go_sem] fd172_3 pt172_3 pl172_4 fd172_4 pt172_4 pl172_5 fd172_5 pt172_5
attribute [go_sem] pl172_6 fd172_6 pt172_6 pl172_7 fd172_7 pt172_7 pl172_8 fd172_8
attribute [go_sem] pt172_8 pl172_9 fd172_9 pt172_9 pl172_10 fd172_10 pt172_10 sz173
attribute [go_sem] ag173 zo173 st173 pl173_0 fd173_0 pt173_0 pl173_1 fd173_1
attribute [go_sem] pt173_1 pl173_2 fd173_2 pt173_2 pl173_3 fd173_3 pt173_3 pl173_4
attribute [go_sem] fd173_4 pt173_4 pl173_5 fd173_5 pt173_5 pl173_6 fd173_6 pt173_6
attribute [go_sem] pl173_7 fd173_7 pt173_7 pl173_8 fd173_8 pt173_8 pl173_9 fd173_9
attribute [go_sem] pt173_9 pl173_10 fd173_10 pt173_10 sz174 ag174 zo174
end Go.Proofs.YtngmfimpaembnaaGreatDoor
