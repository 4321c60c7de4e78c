/- The lemmas by which the conditions are reckoned, tagged. No condition. -/
import Derived.Test.YtfnfjjgphhoigaaGreatT
namespace Go.Proofs.YtfnfjjgphhoigaaGreat
open Go Go.Iso Go.Proofs
attribute [go_sem ↓] Later_apply vc_skip vc_region vc_seq vc_cond vc_block vc_exit vc_ret
attribute [go_sem ↓] vc_loop loopV_zero loopV_one loopV_two loopV_three thenQ_normal thenQ_ret thenQ_exit
attribute [go_sem ↓] blockQ_normal blockQ_ret blockQ_exit retQ_normal retQ_ret resK_nil resK_one resK_two
attribute [go_sem ↓] resK_three oneR_tmp oneR_cell vcOps_nil vcOps_cons vcOps_guard wv_move wv_nilCheck
attribute [go_sem ↓] wv_assign wv_pick wv_load wv_fieldAddr wv_field wv_indexAddr wv_binOp wv_unOp
attribute [go_sem ↓] wv_convert wv_copy wv_extract wv_makeFunc wv_index wv_len wv_min wv_max
attribute [go_sem ↓] wv_call_t wv_call_f wv_store wv_alloc wv_box wv_build wv_slice wv_buildSlice
attribute [go_sem ↓] wv_makeSlice wv_append del_at hpA_at endH_nil endH_cons updH_nil updH_cons
attribute [go_sem ↓] inH_nil inH_cons mkR_eq hpO_at okR_cons okR_nil inR_cons inR_nil
attribute [go_sem ↓] rangeB_zero rangeB_succ roundC_eq guardV_list dstL_zero dstL_succ slotV_some evO_tmp
attribute [go_sem ↓] evO_const evO_func putF_at putF_none upd_at argF_at mkS_eq frL_cons
attribute [go_sem ↓] frL_nil hpL_cons hpL_nil okF_cons okF_nil okH_cons okH_nil okRows_cons
attribute [go_sem ↓] okRows_nil refs_d refs_any refs_iptr refs_ptr refs_msl refs_agg refs_tup
attribute [go_sem ↓] refs_fn refsL_nil refsL_cons refsL_data LoopQ List.length_cons List.length_nil List.getElem?_cons_zero
attribute [go_sem ↓] List.getElem?_cons_succ List.drop_succ_cons List.drop_zero
attribute [go_sem] splitK_true splitK_false condK_val guardK_t guardK_f guardK_tup pickK_val numK_eq
attribute [go_sem] moveK_eq optK_some' loadK_iptr loadK_ptr ldV_t ldV_f fldK_iptr fldK_ptr
attribute [go_sem] partK_agg idxK_sl idxK_msl valK_val bopV_val uopV_val cvV_val cnvK_int
attribute [go_sem] cnvK_str extK_tup strK_val mmV_f mmV_t storeK_ptr rowK_eq boxK_agg
attribute [go_sem] boxK_d allocK_some constV_int constV_bool constV_string constV_slice constV_nilFunc constV_pointer
attribute [go_sem] constV_map constV_agg constC_int constC_bool constC_string constC_slice constC_nilFunc constC_pointer
attribute [go_sem] constC_map toRow_agg toRow_d toRow_ptr toRow_msl toRow_fn one_d one_ptr
attribute [go_sem] one_msl one_fn rowOk_agg rowOk_d rowOk_ptr rowOk_msl rowOk_fn bop_add
attribute [go_sem] bop_sub bop_mul bop_eql bop_neq bop_lss bop_leq bop_gtr bop_geq
attribute [go_sem] bop_str_eql bop_str_neq bop_str_lss bop_str_leq bop_str_gtr bop_str_geq bop_bool_eql bop_bool_neq
attribute [go_sem] uop_not uop_neg bop_shr1 join_some inO_none inO_some accV_nil accO_nil
attribute [go_sem] renV_acc refs_acc inO_acc renRows_data List.nodup_cons List.nodup_nil not_false_eq_true or_self
attribute [go_sem] renRow_nil renRow_cons renRows_nil renRows_cons renV_any renV_d renV_iptr renV_ptr
attribute [go_sem] renV_msl renV_agg renV_tup renV_fn renRow_data List.getD_cons_zero List.getD_cons_succ strAt_nat
attribute [go_sem] putRow bldK_some stepB_some bldV_nil bldV_cons optBind_some asDs_nil asDs_cons
attribute [go_sem] asDs_data asDs_msl asDs_ptr asDs_fn asRows_nil asRows_cons asRowsC_some asRowsC_none
attribute [go_sem] asRowsC_none' bsK_some bsF_some bsF_zero bsF_none inOrder_nil inOrder_cons cutK_str
attribute [go_sem] cutK_sl sliceK_map nilK_ptr nilK_iptr boundV_none boundV_some intOfV_int beq_self_eq_true
attribute [go_sem] Bool.and_self Bool.and_true Bool.true_and ldV_node ldV_cert ldV_proof ldV_pair ldV_pair0
attribute [go_sem] ldV_pair1 ldV_pair2 all_one List.map_drop ldV_step NodeA.enc_mk CertA.enc_mk ProofA.enc_mk
attribute [go_sem] RatA.enc MonoA.enc PolyA.enc SquareA.enc NodeA.enc_len CertA.enc_len ProofA.enc_len PairA.enc_len
attribute [go_sem] StepA.enc_len List.map_cons List.map_nil List.map_append List.cons_append List.nil_append List.append_nil List.length_map
attribute [go_sem] List.drop_nil List.take_succ_cons List.take_zero List.take_nil List.head?_cons List.getElem?_nil List.getElem?_map List.set_cons_zero
attribute [go_sem] List.set_cons_succ Option.getD_some Option.getD_none Option.map_some true_and and_true and_self Bool.false_eq_true
attribute [go_sem] Bool.true_eq_false Bool.not_true Bool.not_false List.mem_cons List.not_mem_nil or_false forall_eq forall_eq_or_imp
attribute [go_sem] Nat.zero_add Nat.add_zero Nat.le_refl Int.toNat_natCast Int.natCast_nonneg Nat.add_assoc
attribute [go_sem] sz1 ag1 zo1 sz2 ag2 zo2 sz3 ag3
attribute [go_sem] zo3 sz4 ag4 zo4 bo4 sz5 ag5 zo5
attribute [go_sem] sz6 ag6 zo6 sz7 ag7 zo7 st7 pl7_0
attribute [go_sem] fd7_0 pt7_0 pl7_1 fd7_1 pt7_1 pl7_2 fd7_2 pt7_2
attribute [go_sem] pl7_3 fd7_3 pt7_3 sz8 ag8 zo8 st8 pl8_0
attribute [go_sem] fd8_0 pt8_0 pl8_1 fd8_1 pt8_1 pl8_2 fd8_2 pt8_2
attribute [go_sem] pl8_3 fd8_3 pt8_3 sz9 ag9 zo9 sq9 ls9
attribute [go_sem] us9 sz10 ag10 zo10 sq10 ls10 us10 sz11
attribute [go_sem] ag11 zo11 sq11 ls11 us11 sz12 ag12 zo12
attribute [go_sem] sz13 ag13 zo13 st13 pl13_0 fd13_0 pt13_0 pl13_1
attribute [go_sem] fd13_1 pt13_1 sz14 ag14 zo14 st14 pl14_0 fd14_0
attribute [go_sem] pt14_0 pl14_1 fd14_1 pt14_1 sz15 ag15 zo15 sz16
attribute [go_sem] ag16 zo16 sz17 ag17 zo17 sz18 ag18 zo18
attribute [go_sem] st18 pl18_0 fd18_0 pt18_0 sz19 ag19 zo19 st19
attribute [go_sem] pl19_0 fd19_0 pt19_0 sz21 ag21 zo21 sz22 ag22
attribute [go_sem] zo22 sq22 el22 es22 et22 ln22 lz22 lm22
attribute [go_sem] la22 sz23 ag23 zo23 st23 pl23_0 fd23_0 pt23_0
attribute [go_sem] pl23_1 fd23_1 pt23_1 pl23_2 fd23_2 pt23_2 sz24 ag24
attribute [go_sem] zo24 st24 pl24_0 fd24_0 pt24_0 pl24_1 fd24_1 pt24_1
attribute [go_sem] pl24_2 fd24_2 pt24_2 sz25 ag25 zo25 sq25 el25
attribute [go_sem] es25 et25 ln25 lz25 lm25 la25 sz26 ag26
attribute [go_sem] zo26 st26 pl26_0 fd26_0 pt26_0 pl26_1 fd26_1 pt26_1
attribute [go_sem] pl26_2 fd26_2 pt26_2 pl26_3 fd26_3 pt26_3 sz27 ag27
attribute [go_sem] zo27 st27 pl27_0 fd27_0 pt27_0 pl27_1 fd27_1 pt27_1
attribute [go_sem] pl27_2 fd27_2 pt27_2 pl27_3 fd27_3 pt27_3 sz28 ag28
attribute [go_sem] zo28 sq28 el28 es28 et28 ln28 lz28 lm28
attribute [go_sem] la28 sz29 ag29 zo29 sz30 ag30 zo30 sz31
attribute [go_sem] ag31 zo31 sz32 ag32 zo32 sz33 ag33 zo33
attribute [go_sem] sz35 ag35 zo35 sz36 ag36 zo36 sz37 ag37
attribute [go_sem] zo37 st37 pl37_0 fd37_0 pt37_0 pl37_1 fd37_1 pt37_1
attribute [go_sem] pl37_2 fd37_2 pt37_2 sz38 ag38 zo38 st38 pl38_0
attribute [go_sem] fd38_0 pt38_0 pl38_1 fd38_1 pt38_1 pl38_2 fd38_2 pt38_2
attribute [go_sem] sz39 ag39 zo39 sq39 el39 es39 et39 ln39
attribute [go_sem] lz39 lm39 la39 sz41 ag41 zo41 sz42 ag42
attribute [go_sem] zo42 sz44 ag44 zo44 sz45 ag45 zo45 sz46
attribute [go_sem] ag46 zo46 sz47 ag47 zo47 sz48 ag48 zo48
attribute [go_sem] sz49 ag49 zo49 sz50 ag50 zo50 sz51 ag51
attribute [go_sem] zo51 sz52 ag52 zo52 sz53 ag53 zo53 st53
attribute [go_sem] pl53_0 fd53_0 pt53_0 pl53_1 fd53_1 pt53_1 pl53_2 fd53_2
attribute [go_sem] pt53_2 pl53_3 fd53_3 pt53_3 pl53_4 fd53_4 pt53_4 sz54
attribute [go_sem] ag54 zo54 st54 pl54_0 fd54_0 pt54_0 pl54_1 fd54_1
attribute [go_sem] pt54_1 pl54_2 fd54_2 pt54_2 pl54_3 fd54_3 pt54_3 pl54_4
attribute [go_sem] fd54_4 pt54_4 sz55 ag55 zo55 sz56 ag56 zo56
attribute [go_sem] sz57 ag57 zo57 st57 pl57_0 fd57_0 pt57_0 sz58
attribute [go_sem] ag58 zo58 st58 pl58_0 fd58_0 pt58_0 sz59 ag59
attribute [go_sem] zo59 sz60 ag60 zo60 sz61 ag61 zo61 sz62
attribute [go_sem] ag62 zo62 st62 pl62_0 fd62_0 pt62_0 pl62_1 fd62_1
attribute [go_sem] pt62_1 sz63 ag63 zo63 st63 pl63_0 fd63_0 pt63_0
attribute [go_sem] pl63_1 fd63_1 pt63_1 sz64 ag64 zo64 sz65 ag65
attribute [go_sem] zo65 sz66 ag66 zo66 sz67 ag67 zo67 sz68
attribute [go_sem] ag68 zo68 sz69 ag69 zo69 sz70 ag70 zo70
attribute [go_sem] sz71 ag71 zo71 sz72 ag72 zo72 sz73 ag73
attribute [go_sem] zo73 sz74 ag74 zo74 sz75 ag75 zo75 st75
attribute [go_sem] pl75_0 fd75_0 pt75_0 pl75_1 fd75_1 pt75_1 pl75_2 fd75_2
attribute [go_sem] pt75_2 sz76 ag76 zo76 st76 pl76_0 fd76_0 pt76_0
attribute [go_sem] pl76_1 fd76_1 pt76_1 pl76_2 fd76_2 pt76_2 sz77 ag77
attribute [go_sem] zo77 sz78 ag78 zo78 sq78 el78 es78 et78
attribute [go_sem] ln78 lz78 lm78 la78 sz79 ag79 zo79 st79
attribute [go_sem] pl79_0 fd79_0 pt79_0 pl79_1 fd79_1 pt79_1 sz80 ag80
attribute [go_sem] zo80 st80 pl80_0 fd80_0 pt80_0 pl80_1 fd80_1 pt80_1
attribute [go_sem] sz81 ag81 zo81 sz82 ag82 zo82 sz83 ag83
attribute [go_sem] zo83 sz85 ag85 zo85 sz86 ag86 zo86 sz87
attribute [go_sem] ag87 zo87 sz89 ag89 zo89 sz90 ag90 zo90
attribute [go_sem] sz91 ag91 zo91 sz92 ag92 zo92 sz93 ag93
attribute [go_sem] zo93 sz94 ag94 zo94 st94 pl94_0 fd94_0 pt94_0
attribute [go_sem] pl94_1 fd94_1 pt94_1 pl94_2 fd94_2 pt94_2 sz95 ag95
attribute [go_sem] zo95 st95 pl95_0 fd95_0 pt95_0 pl95_1 fd95_1 pt95_1
attribute [go_sem] pl95_2 fd95_2 pt95_2 sz96 ag96 zo96 sz97 ag97
attribute [go_sem] zo97 sz98 ag98 zo98 sz99 ag99 zo99 sz100
attribute [go_sem] ag100 zo100 st100 pl100_0 fd100_0 pt100_0 pl100_1 fd100_1
attribute [go_sem] pt100_1 sz101 ag101 zo101 st101 pl101_0 fd101_0 pt101_0
attribute [go_sem] pl101_1 fd101_1 pt101_1 sz102 ag102 zo102 sz103 ag103
attribute [go_sem] zo103 sz104 ag104 zo104 sz105 ag105 zo105 sz107
attribute [go_sem] ag107 zo107 sz108 ag108 zo108 sz109 ag109 zo109
attribute [go_sem] sz110 ag110 zo110 sz111 ag111 zo111 sz112 ag112
attribute [go_sem] zo112 sz114 ag114 zo114 sz115 ag115 zo115 sz116
attribute [go_sem] ag116 zo116 sz117 ag117 zo117 sz118 ag118 zo118
attribute [go_sem] sz119 ag119 zo119 sz120 ag120 zo120 sz121 ag121
attribute [go_sem] zo121 sz122 ag122 zo122 st122 pl122_0 fd122_0 pt122_0
attribute [go_sem] sz123 ag123 zo123 st123 pl123_0 fd123_0 pt123_0 sz124
attribute [go_sem] ag124 zo124 sz125 ag125 zo125 sz126 ag126 zo126
attribute [go_sem] sz127 ag127 zo127 sz128 ag128 zo128 sz129 ag129
attribute [go_sem] zo129 sz130 ag130 zo130 sz131 ag131 zo131 sz132
attribute [go_sem] ag132 zo132 sz133 ag133 zo133 sz134 ag134 zo134
attribute [go_sem] sz135 ag135 zo135 sz136 ag136 zo136 sz137 ag137
attribute [go_sem] zo137 sz139 ag139 zo139 sz140 ag140 zo140 sz141
attribute [go_sem] ag141 zo141 sz142 ag142 zo142 sz143 ag143 zo143
attribute [go_sem] sz144 ag144 zo144 sz145 ag145 zo145 sz146 ag146
attribute [go_sem] zo146 sz147 ag147 zo147 sz148 ag148 zo148 sz149
attribute [go_sem] ag149 zo149 sz150 ag150 zo150 sz151 ag151 zo151
attribute [go_sem] sz152 ag152 zo152 sz153 ag153 zo153 sz155 ag155
attribute [go_sem] zo155 sz157 ag157 zo157 sz158 ag158 zo158 sz160
attribute [go_sem] ag160 zo160 sz161 ag161 zo161 sz162 ag162 zo162
attribute [go_sem] sz163 ag163 zo163 sz165 ag165 zo165 sz166 ag166
attribute [go_sem] zo166 sz167 ag167 zo167 sz168 ag168 zo168 sz170
attribute [go_sem] ag170 zo170 sz171 ag171 zo171 sz172 ag172 zo172
attribute [go_sem] sz173 ag173 zo173 sz174 ag174 zo174 sz175 ag175
attribute [go_sem] zo175 sz176 ag176 zo176 sz178 ag178 zo178 sz179
attribute [go_sem] ag179 zo179 sz180 ag180 zo180 sz181 ag181 zo181
attribute [go_sem] sz182 ag182 zo182 sz183 ag183 zo183 sz184 ag184
attribute [go_sem] zo184 sz185 ag185 zo185 sz186 ag186 zo186 sz187
attribute [go_sem] ag187 zo187 sz189 ag189 zo189 sz190 ag190 zo190
attribute [go_sem] sz191 ag191 zo191 st191 pl191_0 fd191_0 pt191_0 pl191_1
attribute [go_sem] fd191_1 pt191_1 pl191_2 fd191_2 pt191_2 pl191_3 fd191_3 pt191_3
attribute [go_sem] sz192 ag192 zo192 st192 pl192_0 fd192_0 pt192_0 pl192_1
attribute [go_sem] fd192_1 pt192_1 pl192_2 fd192_2 pt192_2 pl192_3 fd192_3 pt192_3
attribute [go_sem] sz193 ag193 sz194 ag194 st194 pl194_0 sz195 ag195
attribute [go_sem] st195 pl195_0 sz196 ag196 zo196 sz197 ag197 zo197
attribute [go_sem] sz198 ag198 zo198 sz199 ag199 zo199 sz200 ag200
attribute [go_sem] zo200 sz201 ag201 zo201 sz202 ag202 zo202 st202
attribute [go_sem] pl202_0 fd202_0 pt202_0 pl202_1 fd202_1 pt202_1 pl202_2 fd202_2
attribute [go_sem] pt202_2 pl202_3 fd202_3 pt202_3 pl202_4 fd202_4 pt202_4 pl202_5
attribute [go_sem] fd202_5 pt202_5 pl202_6 fd202_6 pt202_6 pl202_7 fd202_7 pt202_7
attribute [go_sem] pl202_8 fd202_8 pt202_8 pl202_9 fd202_9 pt202_9 pl202_10 fd202_10
attribute [go_sem] pt202_10 sz203 ag203 zo203 st203 pl203_0 fd203_0 pt203_0
attribute [go_sem] pl203_1 fd203_1 pt203_1 pl203_2 fd203_2 pt203_2 pl203_3 fd203_3
attribute [go_sem] pt203_3 pl203_4 fd203_4 pt203_4 pl203_5 fd203_5 pt203_5 pl203_6
attribute [go_sem] fd203_6 pt203_6 pl203_7 fd203_7 pt203_7 pl203_8 fd203_8 pt203_8
attribute [go_sem] pl203_9 fd203_9 pt203_9 pl203_10 fd203_10 pt203_10 sz204 ag204
attribute [go_sem] zo204 st204 pl204_0 fd204_0 pt204_0 pl204_1 fd204_1 pt204_1
attribute [go_sem] sz205 ag205 zo205 st205 pl205_0 fd205_0 pt205_0 pl205_1
attribute [go_sem] fd205_1 pt205_1
end Go.Proofs.YtfnfjjgphhoigaaGreat
