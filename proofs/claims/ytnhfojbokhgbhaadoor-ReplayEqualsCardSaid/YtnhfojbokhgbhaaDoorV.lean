/- The lemmas by which the conditions are reckoned, tagged. No condition. -/
import Derived.Test.YtnhfojbokhgbhaaDoorT
namespace Go.Proofs.YtnhfojbokhgbhaaDoor
open Go Go.Iso Go.Proofs
attribute [go_sem ↓] Later_apply vc_skip vc_region vc_seq vc_cond vc_block vc_exit vc_ret
attribute [go_sem ↓] vc_loop loopV_zero loopV_one loopV_two loopV_three thenQ_normal thenQ_ret thenQ_exit
attribute [go_sem ↓] blockQ_normal blockQ_ret blockQ_exit retQ_normal retQ_ret resK_nil resK_one resK_two
attribute [go_sem ↓] resK_three oneR_tmp oneR_cell vcOps_nil vcOps_cons vcOps_guard wv_move wv_nilCheck
attribute [go_sem ↓] wv_assign wv_pick wv_load wv_fieldAddr wv_field wv_indexAddr wv_binOp wv_unOp
attribute [go_sem ↓] wv_convert wv_copy wv_extract wv_makeFunc wv_index wv_len wv_min wv_max
attribute [go_sem ↓] wv_call_t wv_call_f wv_store wv_alloc wv_box wv_build wv_slice wv_buildSlice
attribute [go_sem ↓] wv_makeSlice wv_append del_at hpA_at endH_nil endH_cons updH_nil updH_cons
attribute [go_sem ↓] inH_nil inH_cons mkR_eq hpO_at okR_cons okR_nil inR_cons inR_nil
attribute [go_sem ↓] rangeB_zero rangeB_succ roundC_eq guardV_list dstL_zero dstL_succ slotV_some evO_tmp
attribute [go_sem ↓] evO_const evO_func putF_at putF_none upd_at argF_at mkS_eq frL_cons
attribute [go_sem ↓] frL_nil hpL_cons hpL_nil okF_cons okF_nil okH_cons okH_nil okRows_cons
attribute [go_sem ↓] okRows_nil refs_d refs_any refs_iptr refs_ptr refs_msl refs_agg refs_tup
attribute [go_sem ↓] refs_fn refsL_nil refsL_cons refsL_data LoopQ List.length_cons List.length_nil List.getElem?_cons_zero
attribute [go_sem ↓] List.getElem?_cons_succ List.drop_succ_cons List.drop_zero
attribute [go_sem] splitK_true splitK_false condK_val guardK_t guardK_f guardK_tup pickK_val numK_eq
attribute [go_sem] moveK_eq optK_some' loadK_iptr loadK_ptr ldV_t ldV_f fldK_iptr fldK_ptr
attribute [go_sem] partK_agg idxK_sl idxK_msl valK_val bopV_val uopV_val cvV_val cnvK_int
attribute [go_sem] cnvK_str extK_tup strK_val mmV_f mmV_t storeK_ptr rowK_eq boxK_agg
attribute [go_sem] boxK_d allocK_some constV_int constV_bool constV_string constV_slice constV_nilFunc constV_pointer
attribute [go_sem] constV_map constV_agg constC_int constC_bool constC_string constC_slice constC_nilFunc constC_pointer
attribute [go_sem] constC_map toRow_agg toRow_d toRow_ptr toRow_msl toRow_fn one_d one_ptr
attribute [go_sem] one_msl one_fn rowOk_agg rowOk_d rowOk_ptr rowOk_msl rowOk_fn bop_add
attribute [go_sem] bop_sub bop_mul bop_eql bop_neq bop_lss bop_leq bop_gtr bop_geq
attribute [go_sem] bop_str_eql bop_str_neq bop_str_lss bop_str_leq bop_str_gtr bop_str_geq bop_bool_eql bop_bool_neq
attribute [go_sem] uop_not uop_neg bop_shr1 join_some inO_none inO_some accV_nil accO_nil
attribute [go_sem] renV_acc refs_acc inO_acc renRows_data List.nodup_cons List.nodup_nil not_false_eq_true or_self
attribute [go_sem] renRow_nil renRow_cons renRows_nil renRows_cons renV_any renV_d renV_iptr renV_ptr
attribute [go_sem] renV_msl renV_agg renV_tup renV_fn renRow_data List.getD_cons_zero List.getD_cons_succ strAt_nat
attribute [go_sem] putRow bldK_some stepB_some bldV_nil bldV_cons optBind_some asDs_nil asDs_cons
attribute [go_sem] asDs_data asDs_msl asDs_ptr asDs_fn asRows_nil asRows_cons asRowsC_some asRowsC_none
attribute [go_sem] asRowsC_none' bsK_some bsF_some bsF_zero bsF_none inOrder_nil inOrder_cons cutK_str
attribute [go_sem] cutK_sl sliceK_map nilK_ptr nilK_iptr boundV_none boundV_some intOfV_int beq_self_eq_true
attribute [go_sem] Bool.and_self Bool.and_true Bool.true_and ldV_node ldV_cert ldV_proof ldV_pair ldV_pair0
attribute [go_sem] ldV_pair1 ldV_pair2 all_one List.map_drop ldV_step NodeA.enc_mk CertA.enc_mk ProofA.enc_mk
attribute [go_sem] RatA.enc MonoA.enc PolyA.enc SquareA.enc NodeA.enc_len CertA.enc_len ProofA.enc_len PairA.enc_len
attribute [go_sem] StepA.enc_len List.map_cons List.map_nil List.map_append List.cons_append List.nil_append List.append_nil List.length_map
attribute [go_sem] List.drop_nil List.take_succ_cons List.take_zero List.take_nil List.head?_cons List.getElem?_nil List.getElem?_map List.set_cons_zero
attribute [go_sem] List.set_cons_succ Option.getD_some Option.getD_none Option.map_some true_and and_true and_self Bool.false_eq_true
attribute [go_sem] Bool.true_eq_false Bool.not_true Bool.not_false List.mem_cons List.not_mem_nil or_false forall_eq forall_eq_or_imp
attribute [go_sem] Nat.zero_add Nat.add_zero Nat.le_refl Int.toNat_natCast Int.natCast_nonneg Nat.add_assoc
attribute [go_sem] sz1 ag1 zo1 sz2 ag2 zo2 sz3 ag3
attribute [go_sem] zo3 sz4 ag4 zo4 bo4 sz5 ag5 zo5
attribute [go_sem] sz6 ag6 zo6 sz7 ag7 zo7 st7 pl7_0
attribute [go_sem] fd7_0 pt7_0 pl7_1 fd7_1 pt7_1 pl7_2 fd7_2 pt7_2
attribute [go_sem] pl7_3 fd7_3 pt7_3 sz8 ag8 zo8 st8 pl8_0
attribute [go_sem] fd8_0 pt8_0 pl8_1 fd8_1 pt8_1 pl8_2 fd8_2 pt8_2
attribute [go_sem] pl8_3 fd8_3 pt8_3 sz9 ag9 zo9 sq9 ls9
attribute [go_sem] us9 sz10 ag10 zo10 sq10 ls10 us10 sz11
attribute [go_sem] ag11 zo11 sq11 ls11 us11 sz12 ag12 zo12
attribute [go_sem] sz13 ag13 zo13 st13 pl13_0 fd13_0 pt13_0 pl13_1
attribute [go_sem] fd13_1 pt13_1 sz14 ag14 zo14 st14 pl14_0 fd14_0
attribute [go_sem] pt14_0 pl14_1 fd14_1 pt14_1 sz15 ag15 zo15 sz16
attribute [go_sem] ag16 zo16 sz17 ag17 zo17 sz18 ag18 zo18
attribute [go_sem] st18 pl18_0 fd18_0 pt18_0 sz19 ag19 zo19 st19
attribute [go_sem] pl19_0 fd19_0 pt19_0 sz21 ag21 zo21 sz22 ag22
attribute [go_sem] zo22 sq22 el22 es22 et22 ln22 lz22 lm22
attribute [go_sem] la22 sz23 ag23 zo23 sq23 el23 es23 et23
attribute [go_sem] ln23 lz23 lm23 la23 sz24 ag24 zo24 sq24
attribute [go_sem] el24 es24 et24 ln24 lz24 lm24 la24 sz25
attribute [go_sem] ag25 zo25 sq25 el25 es25 et25 ln25 lz25
attribute [go_sem] lm25 la25 sz26 ag26 zo26 sq26 el26 es26
attribute [go_sem] et26 ln26 lz26 lm26 la26 sz27 ag27 zo27
attribute [go_sem] sq27 el27 es27 et27 ln27 lz27 lm27 la27
attribute [go_sem] sz28 ag28 zo28 sq28 el28 es28 et28 ln28
attribute [go_sem] lz28 lm28 la28 sz29 ag29 zo29 sq29 el29
attribute [go_sem] es29 et29 ln29 lz29 lm29 la29 sz30 ag30
attribute [go_sem] zo30 st30 pl30_0 fd30_0 pt30_0 pl30_1 fd30_1 pt30_1
attribute [go_sem] pl30_2 fd30_2 pt30_2 pl30_3 fd30_3 pt30_3 pl30_4 fd30_4
attribute [go_sem] pt30_4 sz31 ag31 zo31 st31 pl31_0 fd31_0 pt31_0
attribute [go_sem] pl31_1 fd31_1 pt31_1 pl31_2 fd31_2 pt31_2 pl31_3 fd31_3
attribute [go_sem] pt31_3 pl31_4 fd31_4 pt31_4 sz32 ag32 zo32 sq32
attribute [go_sem] el32 es32 et32 ln32 lz32 lm32 la32 sz33
attribute [go_sem] ag33 zo33 st33 pl33_0 fd33_0 pt33_0 pl33_1 fd33_1
attribute [go_sem] pt33_1 pl33_2 fd33_2 pt33_2 pl33_3 fd33_3 pt33_3 pl33_4
attribute [go_sem] fd33_4 pt33_4 pl33_5 fd33_5 pt33_5 pl33_6 fd33_6 pt33_6
attribute [go_sem] pl33_7 fd33_7 pt33_7 sz34 ag34 zo34 st34 pl34_0
attribute [go_sem] fd34_0 pt34_0 pl34_1 fd34_1 pt34_1 pl34_2 fd34_2 pt34_2
attribute [go_sem] pl34_3 fd34_3 pt34_3 pl34_4 fd34_4 pt34_4 pl34_5 fd34_5
attribute [go_sem] pt34_5 pl34_6 fd34_6 pt34_6 pl34_7 fd34_7 pt34_7 sz35
attribute [go_sem] ag35 zo35 sq35 el35 es35 et35 ln35 lz35
attribute [go_sem] lm35 la35 sz36 ag36 zo36 sz37 ag37 zo37
attribute [go_sem] sz38 ag38 zo38 sz39 ag39 zo39 sz41 ag41
attribute [go_sem] zo41 sz42 ag42 zo42 sz44 ag44 zo44 sz45
attribute [go_sem] ag45 zo45 sz46 ag46 zo46 sz48 ag48 zo48
attribute [go_sem] sz49 ag49 zo49 sz50 ag50 zo50 sz51 ag51
attribute [go_sem] zo51 sz52 ag52 zo52 sz53 ag53 zo53 sq53
attribute [go_sem] el53 es53 et53 ln53 lz53 lm53 la53 sz54
attribute [go_sem] ag54 zo54 st54 pl54_0 fd54_0 pt54_0 pl54_1 fd54_1
attribute [go_sem] pt54_1 pl54_2 fd54_2 pt54_2 sz55 ag55 zo55 st55
attribute [go_sem] pl55_0 fd55_0 pt55_0 pl55_1 fd55_1 pt55_1 pl55_2 fd55_2
attribute [go_sem] pt55_2 sz56 ag56 zo56 st56 pl56_0 fd56_0 pt56_0
attribute [go_sem] pl56_1 fd56_1 pt56_1 pl56_2 fd56_2 pt56_2 pl56_3 fd56_3
attribute [go_sem] pt56_3 sz57 ag57 zo57 st57 pl57_0 fd57_0 pt57_0
attribute [go_sem] pl57_1 fd57_1 pt57_1 pl57_2 fd57_2 pt57_2 pl57_3 fd57_3
attribute [go_sem] pt57_3 sz58 ag58 zo58 st58 pl58_0 fd58_0 pt58_0
attribute [go_sem] pl58_1 fd58_1 pt58_1 pl58_2 fd58_2 pt58_2 sz59 ag59
attribute [go_sem] zo59 st59 pl59_0 fd59_0 pt59_0 pl59_1 fd59_1 pt59_1
attribute [go_sem] pl59_2 fd59_2 pt59_2 sz60 ag60 zo60 st60 pl60_0
attribute [go_sem] fd60_0 pt60_0 pl60_1 fd60_1 pt60_1 sz61 ag61 zo61
attribute [go_sem] st61 pl61_0 fd61_0 pt61_0 pl61_1 fd61_1 pt61_1 sz62
attribute [go_sem] ag62 zo62 sz63 ag63 zo63 sz64 ag64 zo64
attribute [go_sem] sz65 ag65 zo65 sz67 ag67 zo67 sz68 ag68
attribute [go_sem] zo68 sz69 ag69 zo69 sz70 ag70 zo70 sz71
attribute [go_sem] ag71 zo71 sz72 ag72 zo72 sz73 ag73 zo73
attribute [go_sem] sz74 ag74 zo74 sz75 ag75 zo75 sz76 ag76
attribute [go_sem] zo76 sq76 el76 es76 et76 ln76 lz76 lm76
attribute [go_sem] la76 sz77 ag77 zo77 st77 pl77_0 fd77_0 pt77_0
attribute [go_sem] pl77_1 fd77_1 pt77_1 sz78 ag78 zo78 st78 pl78_0
attribute [go_sem] fd78_0 pt78_0 pl78_1 fd78_1 pt78_1 sz79 ag79 zo79
attribute [go_sem] st79 pl79_0 fd79_0 pt79_0 pl79_1 fd79_1 pt79_1 sz80
attribute [go_sem] ag80 zo80 st80 pl80_0 fd80_0 pt80_0 pl80_1 fd80_1
attribute [go_sem] pt80_1 sz81 ag81 zo81 sz82 ag82 zo82 sz83
attribute [go_sem] ag83 zo83 sz84 ag84 zo84 sz85 ag85 zo85
attribute [go_sem] sz86 ag86 zo86 sz87 ag87 zo87 sz88 ag88
attribute [go_sem] zo88 sz89 ag89 zo89 sz90 ag90 zo90 st90
attribute [go_sem] pl90_0 fd90_0 pt90_0 pl90_1 fd90_1 pt90_1 sz91 ag91
attribute [go_sem] zo91 st91 pl91_0 fd91_0 pt91_0 pl91_1 fd91_1 pt91_1
attribute [go_sem] sz92 ag92 zo92 sz93 ag93 zo93 sz94 ag94
attribute [go_sem] zo94 sz95 ag95 zo95 sz96 ag96 zo96 sz97
attribute [go_sem] ag97 zo97 sz98 ag98 zo98 sz99 ag99 zo99
attribute [go_sem] sz100 ag100 zo100 sz101 ag101 zo101 sz102 ag102
attribute [go_sem] zo102 sz103 ag103 zo103 sz104 ag104 zo104 sz105
attribute [go_sem] ag105 zo105 sz106 ag106 zo106 sz107 ag107 zo107
attribute [go_sem] sz108 ag108 zo108 sz110 ag110 zo110 sz111 ag111
attribute [go_sem] zo111 sz112 ag112 zo112 sz113 ag113 zo113 sz115
attribute [go_sem] ag115 zo115 sz116 ag116 zo116 sz117 ag117 zo117
attribute [go_sem] sz118 ag118 zo118 sz119 ag119 zo119 sz120 ag120
attribute [go_sem] zo120 sz121 ag121 zo121 sq121 el121 es121 et121
attribute [go_sem] ln121 lz121 lm121 la121 sz123 ag123 zo123 sz124
attribute [go_sem] ag124 zo124 sz125 ag125 zo125 sz126 ag126 zo126
attribute [go_sem] sz127 ag127 zo127 sz128 ag128 zo128 sz129 ag129
attribute [go_sem] zo129 sz130 ag130 zo130 sz131 ag131 zo131 sz132
attribute [go_sem] ag132 zo132 sz133 ag133 zo133 sz134 ag134 sz135
attribute [go_sem] ag135 zo135 sz136 ag136 zo136 sz138 ag138 zo138
attribute [go_sem] sz139 ag139 zo139 sz140 ag140 zo140 sz141 ag141
attribute [go_sem] zo141 sz142 ag142 zo142 st142 pl142_0 fd142_0 pt142_0
attribute [go_sem] pl142_1 fd142_1 pt142_1 pl142_2 fd142_2 pt142_2 pl142_3 fd142_3
attribute [go_sem] pt142_3 sz143 ag143 zo143 st143 pl143_0 fd143_0 pt143_0
attribute [go_sem] pl143_1 fd143_1 pt143_1 pl143_2 fd143_2 pt143_2 pl143_3 fd143_3
attribute [go_sem] pt143_3 sz144 ag144 sz145 ag145 st145 pl145_0 sz146
attribute [go_sem] ag146 st146 pl146_0 sz147 ag147 zo147 sz148 ag148
attribute [go_sem] zo148 sz149 ag149 zo149 sz150 ag150 zo150 sz151
attribute [go_sem] ag151 zo151 sz152 ag152 zo152 sz153 ag153 zo153
attribute [go_sem] sz154 ag154 zo154 st154 pl154_0 fd154_0 pt154_0 pl154_1
attribute [go_sem] fd154_1 pt154_1 pl154_2 fd154_2 pt154_2 pl154_3 fd154_3 pt154_3
attribute [go_sem] pl154_4 fd154_4 pt154_4 pl154_5 fd154_5 pt154_5 pl154_6 fd154_6
attribute [go_sem] pt154_6 pl154_7 fd154_7 pt154_7 pl154_8 fd154_8 pt154_8 pl154_9
attribute [go_sem] fd154_9 pt154_9 pl154_10 fd154_10 pt154_10 sz155 ag155 zo155
attribute [go_sem] st155 pl155_0 fd155_0 pt155_0 pl155_1 fd155_1 pt155_1 pl155_2
attribute [go_sem] fd155_2 pt155_2 pl155_3 fd155_3 pt155_3 pl155_4 fd155_4 pt155_4
attribute [go_sem] pl155_5 fd155_5 pt155_5 pl155_6 fd155_6 pt155_6 pl155_7 fd155_7
attribute [go_sem] pt155_7 pl155_8 fd155_8 pt155_8 pl155_9 fd155_9 pt155_9 pl155_10
attribute [go_sem] fd155_10 pt155_10 sz156 ag156 zo156
end Go.Proofs.YtnhfojbokhgbhaaDoor
