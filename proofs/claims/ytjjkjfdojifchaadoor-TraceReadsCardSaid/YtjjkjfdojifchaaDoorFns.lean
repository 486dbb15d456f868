/-
  THE ABSTRACT MACHINE'S FORM OF THE SEAT'S FUNCTIONS (printed by wip/am/Print2.lean).
  Conditions: none (definitions).
-/
import Derived.Test.YtjjkjfdojifchaaDoorAmL
set_option maxRecDepth 100000
namespace Go.Proofs.YtjjkjfdojifchaaDoor
namespace Am
abbrev gv0 : Nat := 0
abbrev gv1 : Nat := 2
abbrev gv2 : Nat := 1
abbrev gv3 : Nat := 5
abbrev gv4 : Nat := 6
def G : Nat → Option Nat := fun g => if g = 0 then some 0 else if g = 2 then some 1 else if g = 1 then some 2 else if g = 5 then some 3 else if g = 6 then some 4 else none
abbrev tyU8 : Nat := 1000005
abbrev tyNE : Nat := 114
abbrev tyB : Nat := 83
abbrev n_law19_TraceReads : Nat := 3
abbrev n_law19_TraceUnlike : Nat := 4
abbrev n_law19_TraceKinds : Nat := 5
abbrev n_law19_awake : Nat := 6
abbrev n_law02_Cut : Nat := 7
abbrev n_trace_Parse : Nat := 8
abbrev n_trace_Unit : Nat := 9
abbrev n_pdu_PDU_Check : Nat := 10
abbrev n_law06_Few : Nat := 11
abbrev n_ref06_Check : Nat := 12
abbrev n_law06_Own : Nat := 13
abbrev n_law06_Same : Nat := 14
abbrev n_ref06_HasSQ : Nat := 15
abbrev n_ref06_HasN : Nat := 16
abbrev n_ref06_Most : Nat := 17
abbrev n_pdu_PDU_Name : Nat := 18
abbrev n_trace_Record : Nat := 19
abbrev n_strings_Split : Nat := 20
abbrev n_trace_kind : Nat := 21
abbrev n_trace_has : Nat := 22
abbrev n_trace_take : Nat := 23
abbrev n_strconv_Itoa : Nat := 24
abbrev n_trace_list : Nat := 25
abbrev n_event_Hex : Nat := 26
abbrev n_pdu_shapeOf : Nat := 27
abbrev n_pdu_low : Nat := 28
abbrev n_slices_ContainsFunc_Lseq_Num_seq_Num : Nat := 29
abbrev n_pdu_PDU_Check_1 : Nat := 30
abbrev n_law06_Few_1 : Nat := 31
abbrev n_ref06_low : Nat := 32
abbrev n_ref06_in : Nat := 33
abbrev n_law06_num : Nat := 34
abbrev n_event_Signal_Text : Nat := 35
abbrev n_trace_number : Nat := 37
abbrev n_seq_Of : Nat := 38
abbrev n_trace_nums : Nat := 39
abbrev n_strings_CutPrefix : Nat := 40
abbrev n_event_Unhex : Nat := 41
abbrev n_strings_Join : Nat := 43
abbrev n_strings_Builder_WriteByte : Nat := 44
abbrev n_strings_Builder_String : Nat := 45
abbrev n_seq_Num_Low : Nat := 46
abbrev n_slices_IndexFunc_Lseq_Num_seq_Num : Nat := 47
abbrev n_strconv_Atoi : Nat := 51
abbrev n_istringslite_CutPrefix : Nat := 52
abbrev n_strings_IndexByte : Nat := 53
abbrev n_strings_Builder_copyCheck : Nat := 57
abbrev n_istringslite_HasPrefix : Nat := 64
/-! polliwog/polliwoglaw19.TraceReads -/
abbrev r_law19_TraceReads_0 : List COp := [o 2 (.mv (.k (.b false)))]
abbrev r_law19_TraceReads_1 : List COp := [oC 5 n_law19_awake [], o 6 (.un .not (.tm 5))]
abbrev r_law19_TraceReads_2 : List COp := [o 2 (.mv (.k (.b false)))]
abbrev r_law19_TraceReads_3 : List COp := [o 7 (.mv (.tm 0)), oC 8 n_law02_Cut [(.tm 7), (.k (.i .i64 600))], o 0 (.mv (.tm 8))]
abbrev r_law19_TraceReads_4 : List COp := [o 10 (.mv (.tm 0)), oC 11 n_trace_Parse [(.tm 10)], o 9 (.mv (.tm 11)), o 12 (.extract (.tm 9) 0), o 13 (.extract (.tm 9) 1), o 3 (.alloc [(.i .i64 0), (.i .i64 0), (.i .u32 0), (.i .u32 0), (.i .u32 0), (.sl none 0 (some 0) 0), (.b false), (.s [])] 28), oN (.store 8 (.tm 3) (.tm 12)), o 4 (.mv (.tm 13))]
abbrev r_law19_TraceReads_5 : List COp := [o 14 (.mv (.tm 4)), o 15 (.un .not (.tm 14))]
abbrev r_law19_TraceReads_6 : List COp := [o 16 (.faddr 0 (.tm 3)), o 17 (.load false 1 (.tm 16)), o 18 (.bin .eql (.tm 17) (.k (.i .i64 0))), o 19 (.mv (.tm 18)), ⟨(some 20), (.op (.faddr 7 (.tm 3))), (some (19, true))⟩, ⟨(some 21), (.op (.load false 1 (.tm 20))), (some (19, true))⟩, ⟨(some 22), (.op (.bin .eql (.tm 21) (.k (.s [])))), (some (19, true))⟩, o 23 (.pick (.tm 19) (.tm 22) (.k (.b false))), o 24 (.mv (.tm 23)), ⟨(some 25), (.op (.faddr 5 (.tm 3))), (some (24, true))⟩, ⟨(some 26), (.op (.load false 1 (.tm 25))), (some (24, true))⟩, ⟨(some 27), (.op (.len .slice (.tm 26))), (some (24, true))⟩, ⟨(some 28), (.op (.bin .eql (.tm 27) (.k (.i .i64 0)))), (some (24, true))⟩, o 29 (.pick (.tm 24) (.tm 28) (.k (.b false))), o 2 (.mv (.tm 29))]
abbrev r_law19_TraceReads_7 : List COp := [o 30 (.load true 8 (.tm 3)), oC 31 n_trace_Unit [(.tm 30)], o 32 (.mv (.tm 0)), o 33 (.bin .eql (.tm 31) (.tm 32)), o 34 (.mv (.tm 33)), ⟨(some 35), (.op (.load true 8 (.tm 3))), (some (34, true))⟩, ⟨(some 36), (.callf n_pdu_PDU_Check [(.tm 35)]), (some (34, true))⟩, ⟨(some 37), (.op (.bin .eql (.tm 36) (.k (.i .i64 0)))), (some (34, true))⟩, o 38 (.pick (.tm 34) (.tm 37) (.k (.b false))), o 2 (.mv (.tm 38))]
def b_law19_TraceReads : C := (.seq (.reg r_law19_TraceReads_0) (.seq (.seq (.reg r_law19_TraceReads_1) (.cond (.tm 6) (.seq (.reg r_law19_TraceReads_2) .ret) .skip)) (.seq (.reg r_law19_TraceReads_3) (.seq (.reg r_law19_TraceReads_4) (.seq (.seq (.reg r_law19_TraceReads_5) (.cond (.tm 15) (.seq (.reg r_law19_TraceReads_6) .ret) .skip)) (.seq (.reg r_law19_TraceReads_7) .ret))))))
abbrev c_law19_TraceReads : CF := ⟨39, [(.tm 2)], b_law19_TraceReads⟩
/-! polliwog/polliwoglaw19.TraceUnlike -/
abbrev r_law19_TraceUnlike_0 : List COp := [o 2 (.box (.tm 0)), o 3 (.box (.tm 1)), o 4 (.mv (.k (.b false)))]
abbrev r_law19_TraceUnlike_1 : List COp := [oC 7 n_law19_awake [], o 8 (.un .not (.tm 7))]
abbrev r_law19_TraceUnlike_2 : List COp := [o 4 (.mv (.k (.b false)))]
abbrev r_law19_TraceUnlike_3 : List COp := [o 9 (.load true 8 (.tm 2)), o 11 (.load true 8 (.tm 3)), oC 10 n_law06_Few [(.tm 9)], oC 12 n_law06_Few [(.tm 11)], oN (.store 8 (.tm 2) (.tm 10)), oN (.store 8 (.tm 3) (.tm 12))]
abbrev r_law19_TraceUnlike_4 : List COp := [o 13 (.load true 8 (.tm 2)), oC 14 n_ref06_Check [(.tm 13)], o 15 (.bin .neq (.tm 14) (.k (.i .i64 0))), o 16 (.mv (.tm 15)), ⟨(some 17), (.op (.load true 8 (.tm 3))), (some (16, false))⟩, ⟨(some 18), (.callf n_ref06_Check [(.tm 17)]), (some (16, false))⟩, ⟨(some 19), (.op (.bin .neq (.tm 18) (.k (.i .i64 0)))), (some (16, false))⟩, o 20 (.pick (.tm 16) (.k (.b true)) (.tm 19))]
abbrev r_law19_TraceUnlike_5 : List COp := [o 4 (.mv (.k (.b true)))]
abbrev r_law19_TraceUnlike_6 : List COp := [o 21 (.load true 8 (.tm 2)), o 23 (.load true 8 (.tm 3)), o 5 (.alloc [(.i .i64 0), (.i .i64 0), (.i .u32 0), (.i .u32 0), (.i .u32 0), (.sl none 0 (some 0) 0), (.b false), (.s [])] 28), o 6 (.alloc [(.i .i64 0), (.i .i64 0), (.i .u32 0), (.i .u32 0), (.i .u32 0), (.sl none 0 (some 0) 0), (.b false), (.s [])] 28), oC 22 n_law06_Own [(.tm 21)], oC 24 n_law06_Own [(.tm 23)], oN (.store 8 (.tm 5) (.tm 22)), oN (.store 8 (.tm 6) (.tm 24))]
abbrev r_law19_TraceUnlike_7 : List COp := [o 25 (.load true 8 (.tm 5)), o 27 (.load true 8 (.tm 6)), o 30 (.load true 8 (.tm 5)), o 31 (.load true 8 (.tm 3)), oC 26 n_trace_Unit [(.tm 25)], oC 28 n_trace_Unit [(.tm 27)], o 29 (.bin .eql (.tm 26) (.tm 28)), oC 32 n_law06_Same [(.tm 30), (.tm 31)], o 33 (.eq false .bool (.tm 29) (.tm 32)), o 4 (.mv (.tm 33))]
def b_law19_TraceUnlike : C := (.seq (.reg r_law19_TraceUnlike_0) (.seq (.seq (.reg r_law19_TraceUnlike_1) (.cond (.tm 8) (.seq (.reg r_law19_TraceUnlike_2) .ret) .skip)) (.seq (.draw r_law19_TraceUnlike_3 [(1, [3])] []) (.seq (.seq (.reg r_law19_TraceUnlike_4) (.cond (.tm 20) (.seq (.reg r_law19_TraceUnlike_5) .ret) .skip)) (.seq (.draw r_law19_TraceUnlike_6 [(1, [5])] [(2, [5, 6]), (3, [5, 6])]) (.seq (.draw r_law19_TraceUnlike_7 [(1, [5]), (2, [5, 6]), (3, [5, 6])] []) .ret))))))
abbrev c_law19_TraceUnlike : CF := ⟨34, [(.tm 4)], b_law19_TraceUnlike⟩
/-! polliwog/polliwoglaw19.TraceKinds -/
abbrev r_law19_TraceKinds_0 : List COp := [o 1 (.box (.tm 0)), o 2 (.mv (.k (.b false)))]
abbrev r_law19_TraceKinds_1 : List COp := [oC 12 n_law19_awake [], o 13 (.un .not (.tm 12))]
abbrev r_law19_TraceKinds_2 : List COp := [o 2 (.mv (.k (.b false)))]
abbrev r_law19_TraceKinds_3 : List COp := [o 14 (.load true 8 (.tm 1)), oC 15 n_law06_Few [(.tm 14)], oN (.store 8 (.tm 1) (.tm 15))]
abbrev r_law19_TraceKinds_4 : List COp := [o 16 (.load true 8 (.tm 1)), oC 17 n_law06_Own [(.tm 16)], o 3 (.alloc [(.i .i64 0), (.i .i64 0), (.i .u32 0), (.i .u32 0), (.i .u32 0), (.sl none 0 (some 0) 0), (.b false), (.s [])] 28), oN (.store 8 (.tm 3) (.tm 17))]
abbrev r_law19_TraceKinds_5 : List COp := [o 18 (.load true 8 (.tm 3)), oC 19 n_trace_Unit [(.tm 18)], o 4 (.mv (.tm 19))]
abbrev r_law19_TraceKinds_6 : List COp := [o 20 (.load true 8 (.tm 1)), oC 21 n_ref06_Check [(.tm 20)], o 22 (.bin .neq (.tm 21) (.k (.i .i64 0)))]
abbrev r_law19_TraceKinds_7 : List COp := [o 23 (.mv (.tm 4)), o 24 (.bin .eql (.tm 23) (.k (.s []))), o 2 (.mv (.tm 24))]
abbrev r_law19_TraceKinds_8 : List COp := [o 5 (.mv (.k (.i .i64 1)))]
abbrev r_law19_TraceKinds_9 : List COp := [o 25 (.mv (.tm 4)), o 26 (.convSB (.tm 25)), o 27 (.len .slice (.tm 26)), o 28 (.mv (.k (.i .i64 0)))]
abbrev r_law19_TraceKinds_10 : List COp := [o 29 (.bin .lss (.tm 28) (.tm 27))]
abbrev r_law19_TraceKinds_11 : List COp := [o 30 (.iaddrL 1 (.tm 26) (.tm 28)), o 31 (.load false 1 (.tm 30)), o 7 (.mv (.tm 31))]
abbrev r_law19_TraceKinds_12 : List COp := [o 32 (.mv (.tm 7)), o 33 (.bin .eql (.tm 32) (.k (.i .u8 32)))]
abbrev r_law19_TraceKinds_13 : List COp := [o 34 (.mv (.tm 5)), o 35 (.bin .add (.tm 34) (.k (.i .i64 1))), o 5 (.mv (.tm 35))]
abbrev r_law19_TraceKinds_14 : List COp := [o 36 (.bin .add (.tm 28) (.k (.i .i64 1))), o 28 (.mv (.tm 36))]
def l_law19_TraceKinds_0 : C := (.seq (.reg r_law19_TraceKinds_10) (.seq (.cond (.tm 29) .skip (.exit 0)) (.seq (.blk 1 (.seq (.reg r_law19_TraceKinds_11) (.seq (.reg r_law19_TraceKinds_12) (.cond (.tm 33) (.reg r_law19_TraceKinds_13) .skip)))) (.reg r_law19_TraceKinds_14))))
abbrev r_law19_TraceKinds_15 : List COp := [o 8 (.mv (.k (.i .i64 1)))]
abbrev r_law19_TraceKinds_16 : List COp := [o 37 (.faddr 0 (.tm 1)), o 38 (.load false 1 (.tm 37)), o 40 (.faddr 0 (.tm 1)), o 41 (.load false 1 (.tm 40)), o 43 (.faddr 0 (.tm 1)), o 44 (.load false 1 (.tm 43)), o 45 (.bin .eql (.tm 44) (.k (.i .i64 10))), o 51 (.faddr 0 (.tm 1)), o 52 (.load false 1 (.tm 51)), o 53 (.bin .eql (.tm 52) (.k (.i .i64 11))), o 59 (.faddr 0 (.tm 1)), o 60 (.load false 1 (.tm 59)), o 61 (.bin .eql (.tm 60) (.k (.i .i64 11))), o 67 (.faddr 6 (.tm 1)), o 68 (.load false 1 (.tm 67)), o 69 (.faddr 0 (.tm 1)), o 70 (.load false 1 (.tm 69)), o 75 (.mv (.k (.i .i64 0))), oC 39 n_ref06_HasSQ [(.tm 38)], oC 42 n_ref06_HasN [(.tm 41)], o 46 (.mv (.tm 45)), ⟨(some 47), (.op (.faddr 0 (.tm 1))), (some (46, false))⟩, ⟨(some 48), (.op (.load false 1 (.tm 47))), (some (46, false))⟩, ⟨(some 49), (.op (.bin .eql (.tm 48) (.k (.i .i64 11)))), (some (46, false))⟩, o 50 (.pick (.tm 46) (.k (.b true)) (.tm 49)), o 54 (.mv (.tm 53)), ⟨(some 55), (.op (.faddr 0 (.tm 1))), (some (54, false))⟩, ⟨(some 56), (.op (.load false 1 (.tm 55))), (some (54, false))⟩, ⟨(some 57), (.op (.bin .eql (.tm 56) (.k (.i .i64 12)))), (some (54, false))⟩, o 58 (.pick (.tm 54) (.k (.b true)) (.tm 57)), o 62 (.mv (.tm 61)), ⟨(some 63), (.op (.faddr 0 (.tm 1))), (some (62, false))⟩, ⟨(some 64), (.op (.load false 1 (.tm 63))), (some (62, false))⟩, ⟨(some 65), (.op (.bin .eql (.tm 64) (.k (.i .i64 12)))), (some (62, false))⟩, o 66 (.pick (.tm 62) (.k (.b true)) (.tm 65)), oC 71 n_ref06_Most [(.tm 70)], o 72 (.bin .gtr (.tm 71) (.k (.i .i64 0))), o 73 (.bslice 1 [(.b false)] 7 [(0, (.tm 39)), (1, (.tm 42)), (2, (.tm 50)), (3, (.tm 58)), (4, (.tm 66)), (5, (.tm 68)), (6, (.tm 72))]), o 74 (.len .slice (.tm 73))]
abbrev r_law19_TraceKinds_17 : List COp := [o 76 (.bin .lss (.tm 75) (.tm 74))]
abbrev r_law19_TraceKinds_18 : List COp := [o 77 (.iaddrL 1 (.tm 73) (.tm 75)), o 78 (.load false 1 (.tm 77)), o 10 (.mv (.tm 78))]
abbrev r_law19_TraceKinds_19 : List COp := [o 79 (.mv (.tm 10))]
abbrev r_law19_TraceKinds_20 : List COp := [o 80 (.mv (.tm 8)), o 81 (.bin .add (.tm 80) (.k (.i .i64 1))), o 8 (.mv (.tm 81))]
abbrev r_law19_TraceKinds_21 : List COp := [o 82 (.bin .add (.tm 75) (.k (.i .i64 1))), o 75 (.mv (.tm 82))]
def l_law19_TraceKinds_1 : C := (.seq (.reg r_law19_TraceKinds_17) (.seq (.cond (.tm 76) .skip (.exit 2)) (.seq (.blk 3 (.seq (.reg r_law19_TraceKinds_18) (.seq (.reg r_law19_TraceKinds_19) (.cond (.tm 79) (.reg r_law19_TraceKinds_20) .skip)))) (.reg r_law19_TraceKinds_21))))
abbrev r_law19_TraceKinds_22 : List COp := [o 83 (.load true 8 (.tm 3)), oC 84 n_pdu_PDU_Name [(.tm 83)], o 85 (.len .str (.tm 84)), o 11 (.mv (.tm 85))]
abbrev r_law19_TraceKinds_23 : List COp := [o 86 (.mv (.tm 5)), o 87 (.mv (.tm 8)), o 88 (.bin .eql (.tm 86) (.tm 87)), o 89 (.mv (.tm 88)), ⟨(some 90), (.op (.mv (.tm 4))), (some (89, true))⟩, ⟨(some 91), (.op (.len .str (.tm 90))), (some (89, true))⟩, ⟨(some 92), (.op (.mv (.tm 11))), (some (89, true))⟩, ⟨(some 93), (.op (.bin .geq (.tm 91) (.tm 92))), (some (89, true))⟩, o 94 (.pick (.tm 89) (.tm 93) (.k (.b false))), o 95 (.mv (.tm 94)), ⟨(some 96), (.op (.mv (.tm 4))), (some (95, true))⟩, ⟨(some 97), (.op (.mv (.tm 11))), (some (95, true))⟩, ⟨(some 98), (.op (.sliceS (.tm 96) none (some (.tm 97)))), (some (95, true))⟩, ⟨(some 99), (.op (.load true 8 (.tm 3))), (some (95, true))⟩, ⟨(some 100), (.callf n_pdu_PDU_Name [(.tm 99)]), (some (95, true))⟩, ⟨(some 101), (.op (.bin .eql (.tm 98) (.tm 100))), (some (95, true))⟩, o 102 (.pick (.tm 95) (.tm 101) (.k (.b false))), o 2 (.mv (.tm 102))]
def b_law19_TraceKinds : C := (.seq (.reg r_law19_TraceKinds_0) (.seq (.seq (.reg r_law19_TraceKinds_1) (.cond (.tm 13) (.seq (.reg r_law19_TraceKinds_2) .ret) .skip)) (.seq (.reg r_law19_TraceKinds_3) (.seq (.reg r_law19_TraceKinds_4) (.seq (.reg r_law19_TraceKinds_5) (.seq (.seq (.reg r_law19_TraceKinds_6) (.cond (.tm 22) (.seq (.reg r_law19_TraceKinds_7) .ret) .skip)) (.seq (.reg r_law19_TraceKinds_8) (.seq (.seq (.reg r_law19_TraceKinds_9) (.blk 0 (.loop l_law19_TraceKinds_0))) (.seq (.reg r_law19_TraceKinds_15) (.seq (.seq (.draw r_law19_TraceKinds_16 [(3, [19]), (5, [19, 20]), (8, [19, 20]), (11, [19, 20]), (14, [19, 20, 36]), (16, [19, 20]), (22, [36]), (27, [36]), (32, [36])] []) (.blk 2 (.loop l_law19_TraceKinds_1))) (.seq (.reg r_law19_TraceKinds_22) (.seq (.draw r_law19_TraceKinds_23 [] []) .ret))))))))))))
abbrev c_law19_TraceKinds : CF := ⟨103, [(.tm 2)], b_law19_TraceKinds⟩
/-! polliwog/polliwoglaw19.awake -/
abbrev r_law19_awake_0 : List COp := [o 0 (.mv (.k (.b false)))]
abbrev r_law19_awake_1 : List COp := [o 4 (.bslice 1 [(.i .u32 0)] 2 [(0, (.k (.i .u32 3))), (1, (.k (.i .u32 5)))]), o 5 (.build [(.i .i64 0), (.i .i64 0), (.i .u32 0), (.i .u32 0), (.i .u32 0), (.sl none 0 (some 0) 0), (.b false), (.s [])] [(0, 1, (.k (.i .i64 11))), (2, 1, (.k (.i .u32 3))), (3, 1, (.k (.i .u32 9))), (4, 1, (.k (.i .u32 40))), (5, 1, (.tm 4))]), o 1 (.alloc [(.i .i64 0), (.i .i64 0), (.i .u32 0), (.i .u32 0), (.i .u32 0), (.sl none 0 (some 0) 0), (.b false), (.s [])] 28), oN (.store 8 (.tm 1) (.tm 5))]
abbrev r_law19_awake_2 : List COp := [oC 7 n_trace_Parse [(.k (.s [115, 100, 32, 110, 53, 32, 100, 54, 49, 54, 50]))], o 6 (.mv (.tm 7)), o 8 (.extract (.tm 6) 0), o 9 (.extract (.tm 6) 1), o 2 (.alloc [(.i .i64 0), (.i .i64 0), (.i .u32 0), (.i .u32 0), (.i .u32 0), (.sl none 0 (some 0) 0), (.b false), (.s [])] 28), oN (.store 8 (.tm 2) (.tm 8)), o 3 (.mv (.tm 9))]
abbrev r_law19_awake_3 : List COp := [o 10 (.load true 8 (.tm 1)), oC 11 n_trace_Unit [(.tm 10)], o 12 (.bin .eql (.tm 11) (.k (.s [115, 116, 97, 116, 32, 110, 51, 32, 112, 115, 57, 32, 109, 114, 52, 48, 32, 108, 51, 44, 53]))), o 13 (.mv (.tm 12)), ⟨(some 14), (.op (.mv (.tm 3))), (some (13, true))⟩, o 15 (.pick (.tm 13) (.tm 14) (.k (.b false))), o 16 (.mv (.tm 15)), ⟨(some 17), (.op (.faddr 0 (.tm 2))), (some (16, true))⟩, ⟨(some 18), (.op (.load false 1 (.tm 17))), (some (16, true))⟩, ⟨(some 19), (.op (.bin .eql (.tm 18) (.k (.i .i64 8)))), (some (16, true))⟩, o 20 (.pick (.tm 16) (.tm 19) (.k (.b false))), o 21 (.mv (.tm 20)), ⟨(some 22), (.op (.faddr 2 (.tm 2))), (some (21, true))⟩, ⟨(some 23), (.op (.load false 1 (.tm 22))), (some (21, true))⟩, ⟨(some 24), (.op (.bin .eql (.tm 23) (.k (.i .u32 5)))), (some (21, true))⟩, o 25 (.pick (.tm 21) (.tm 24) (.k (.b false))), o 26 (.mv (.tm 25)), ⟨(some 27), (.op (.faddr 7 (.tm 2))), (some (26, true))⟩, ⟨(some 28), (.op (.load false 1 (.tm 27))), (some (26, true))⟩, ⟨(some 29), (.op (.bin .eql (.tm 28) (.k (.s [97, 98])))), (some (26, true))⟩, o 30 (.pick (.tm 26) (.tm 29) (.k (.b false))), o 31 (.mv (.tm 30)), ⟨(some 32), (.op (.build [(.i .i64 0), (.i .i64 0), (.i .i64 0), (.i .i64 0), (.i .u32 0), (.i .u32 0), (.i .u32 0), (.sl none 0 (some 0) 0), (.b false), (.s []), (.i .i64 0), (.s []), (.b false), (.i .u8 0), (.i .i64 0), (.i .i64 0), (.s []), (.i .i64 0)] [(0, 1, (.k (.i .i64 1))), (1, 1, (.k (.i .i64 4)))])), (some (31, true))⟩, ⟨(some 33), (.callf n_trace_Record [(.tm 32)]), (some (31, true))⟩, ⟨(some 34), (.op (.bin .eql (.tm 33) (.k (.s [49, 32, 120])))), (some (31, true))⟩, o 35 (.pick (.tm 31) (.tm 34) (.k (.b false))), o 0 (.mv (.tm 35))]
def b_law19_awake : C := (.seq (.reg r_law19_awake_0) (.seq (.reg r_law19_awake_1) (.seq (.reg r_law19_awake_2) (.seq (.reg r_law19_awake_3) .ret))))
abbrev c_law19_awake : CF := ⟨36, [(.tm 0)], b_law19_awake⟩
/-! polliwog/polliwoglaw02.Cut -/
abbrev r_law02_Cut_0 : List COp := [o 4 (.mv (.k (.s [])))]
abbrev r_law02_Cut_1 : List COp := [o 5 (.mv (.tm 0)), o 6 (.len .str (.tm 5)), o 7 (.mv (.tm 1)), o 8 (.bin .gtr (.tm 6) (.tm 7))]
abbrev r_law02_Cut_2 : List COp := [o 9 (.mv (.tm 0)), o 10 (.mv (.tm 1)), o 11 (.sliceS (.tm 9) none (some (.tm 10))), o 4 (.mv (.tm 11))]
abbrev r_law02_Cut_3 : List COp := [o 12 (.mv (.tm 0)), o 4 (.mv (.tm 12))]
def b_law02_Cut : C := (.seq (.reg r_law02_Cut_0) (.seq (.seq (.reg r_law02_Cut_1) (.cond (.tm 8) (.seq (.reg r_law02_Cut_2) .ret) .skip)) (.seq (.reg r_law02_Cut_3) .ret)))
abbrev c_law02_Cut : CF := ⟨13, [(.tm 4)], b_law02_Cut⟩
/-! polliwog/trace.Parse -/
abbrev r_trace_Parse_0 : List COp := [o 2 (.alloc [(.i .i64 0), (.i .i64 0), (.i .u32 0), (.i .u32 0), (.i .u32 0), (.sl none 0 (some 0) 0), (.b false), (.s [])] 28), o 3 (.mv (.k (.b false)))]
abbrev r_trace_Parse_1 : List COp := [o 9 (.mv (.tm 0)), oC 10 n_strings_Split [(.tm 9), (.k (.s [32]))], o 4 (.mv (.tm 10))]
abbrev r_trace_Parse_2 : List COp := [o 11 (.mv (.tm 4)), o 12 (.iaddrL 1 (.tm 11) (.k (.i .i64 0))), o 13 (.load false 1 (.tm 12)), oC 14 n_trace_kind [(.tm 13)], o 15 (.build [(.i .i64 0), (.i .i64 0), (.i .u32 0), (.i .u32 0), (.i .u32 0), (.sl none 0 (some 0) 0), (.b false), (.s [])] [(0, 1, (.tm 14))]), o 5 (.alloc [(.i .i64 0), (.i .i64 0), (.i .u32 0), (.i .u32 0), (.i .u32 0), (.sl none 0 (some 0) 0), (.b false), (.s [])] 28), oN (.store 8 (.tm 5) (.tm 15))]
abbrev r_trace_Parse_3 : List COp := [o 16 (.faddr 0 (.tm 5)), o 17 (.load false 1 (.tm 16)), o 18 (.bin .eql (.tm 17) (.k (.i .i64 3))), o 19 (.mv (.tm 18)), ⟨(some 20), (.op (.mv (.tm 4))), (some (19, true))⟩, ⟨(some 21), (.op (.len .slice (.tm 20))), (some (19, true))⟩, ⟨(some 22), (.op (.bin .eql (.tm 21) (.k (.i .i64 4)))), (some (19, true))⟩, o 23 (.pick (.tm 19) (.tm 22) (.k (.b false))), o 24 (.mv (.tm 23)), ⟨(some 25), (.op (.mv (.tm 4))), (some (24, true))⟩, ⟨(some 26), (.op (.iaddrL 1 (.tm 25) (.k (.i .i64 2)))), (some (24, true))⟩, ⟨(some 27), (.op (.load false 1 (.tm 26))), (some (24, true))⟩, ⟨(some 28), (.op (.bin .eql (.tm 27) (.k (.s [115, 101, 108, 102])))), (some (24, true))⟩, o 29 (.pick (.tm 24) (.tm 28) (.k (.b false)))]
abbrev r_trace_Parse_4 : List COp := [o 30 (.faddr 6 (.tm 5)), oN (.store 1 (.tm 30) (.k (.b true)))]
abbrev r_trace_Parse_5 : List COp := [o 31 (.mv (.tm 4)), o 32 (.sliceL 1 (.tm 31) none (some (.k (.i .i64 2))) (some (.k (.i .i64 2)))), o 33 (.mv (.tm 4)), o 34 (.iaddrL 1 (.tm 33) (.k (.i .i64 3))), o 35 (.load false 1 (.tm 34)), o 36 (.bslice 1 [(.s [])] 1 [(0, (.tm 35))]), o 37 (.append false 1 16 (.tm 32) (.tm 36)), o 4 (.mv (.tm 37))]
abbrev r_trace_Parse_6 : List COp := [o 38 (.faddr 0 (.tm 5)), o 39 (.load false 1 (.tm 38)), oC 40 n_trace_has [(.tm 39)], o 6 (.mv (.tm 40))]
abbrev r_trace_Parse_7 : List COp := [o 41 (.faddr 0 (.tm 5)), o 42 (.load false 1 (.tm 41)), o 43 (.bin .eql (.tm 42) (.k (.i .i64 0))), o 44 (.mv (.tm 43)), ⟨(some 45), (.op (.mv (.tm 4))), (some (44, false))⟩, ⟨(some 46), (.op (.len .slice (.tm 45))), (some (44, false))⟩, ⟨(some 47), (.op (.mv (.tm 6))), (some (44, false))⟩, ⟨(some 48), (.op (.len .str (.tm 47))), (some (44, false))⟩, ⟨(some 49), (.op (.bin .add (.k (.i .i64 1)) (.tm 48))), (some (44, false))⟩, ⟨(some 50), (.op (.bin .neq (.tm 46) (.tm 49))), (some (44, false))⟩, o 51 (.pick (.tm 44) (.k (.b true)) (.tm 50))]
abbrev r_trace_Parse_8 : List COp := [o 52 (.build [(.i .i64 0), (.i .i64 0), (.i .u32 0), (.i .u32 0), (.i .u32 0), (.sl none 0 (some 0) 0), (.b false), (.s [])] []), oN (.store 8 (.tm 2) (.tm 52)), o 3 (.mv (.k (.b false)))]
abbrev r_trace_Parse_9 : List COp := [o 53 (.mv (.tm 6)), o 54 (.range (.tm 53))]
abbrev r_trace_Parse_10 : List COp := [o 55 (.next (.tm 54)), o 56 (.extract (.tm 55) 0)]
abbrev r_trace_Parse_11 : List COp := [o 57 (.extract (.tm 55) 1), o 58 (.extract (.tm 55) 2), o 7 (.mv (.tm 57)), o 8 (.mv (.tm 58))]
abbrev r_trace_Parse_12 : List COp := [o 59 (.mv (.tm 8)), o 60 (.mv (.tm 4)), o 61 (.mv (.tm 7)), o 62 (.bin .add (.k (.i .i64 1)) (.tm 61)), o 63 (.iaddrL 1 (.tm 60) (.tm 62)), o 64 (.load false 1 (.tm 63)), oC 65 n_trace_take [(.tm 5), (.tm 59), (.tm 64)], o 66 (.un .not (.tm 65))]
abbrev r_trace_Parse_13 : List COp := [o 67 (.build [(.i .i64 0), (.i .i64 0), (.i .u32 0), (.i .u32 0), (.i .u32 0), (.sl none 0 (some 0) 0), (.b false), (.s [])] []), oN (.store 8 (.tm 2) (.tm 67)), o 3 (.mv (.k (.b false)))]
def l_trace_Parse_0 : C := (.seq (.reg r_trace_Parse_10) (.seq (.cond (.tm 56) .skip (.exit 0)) (.blk 1 (.seq (.reg r_trace_Parse_11) (.seq (.reg r_trace_Parse_12) (.cond (.tm 66) (.seq (.reg r_trace_Parse_13) .ret) .skip))))))
abbrev r_trace_Parse_14 : List COp := [o 68 (.load true 8 (.tm 5)), oC 69 n_pdu_PDU_Check [(.tm 68)], o 70 (.bin .neq (.tm 69) (.k (.i .i64 0)))]
abbrev r_trace_Parse_15 : List COp := [o 71 (.build [(.i .i64 0), (.i .i64 0), (.i .u32 0), (.i .u32 0), (.i .u32 0), (.sl none 0 (some 0) 0), (.b false), (.s [])] []), oN (.store 8 (.tm 2) (.tm 71)), o 3 (.mv (.k (.b false)))]
abbrev r_trace_Parse_16 : List COp := [o 72 (.load true 8 (.tm 5)), oN (.store 8 (.tm 2) (.tm 72)), o 3 (.mv (.k (.b true)))]
def b_trace_Parse : C := (.seq (.reg r_trace_Parse_0) (.seq (.reg r_trace_Parse_1) (.seq (.reg r_trace_Parse_2) (.seq (.seq (.reg r_trace_Parse_3) (.cond (.tm 29) (.seq (.reg r_trace_Parse_4) (.draw r_trace_Parse_5 [] [])) .skip)) (.seq (.reg r_trace_Parse_6) (.seq (.seq (.reg r_trace_Parse_7) (.cond (.tm 51) (.seq (.reg r_trace_Parse_8) .ret) .skip)) (.seq (.seq (.reg r_trace_Parse_9) (.blk 0 (.loop l_trace_Parse_0))) (.seq (.seq (.reg r_trace_Parse_14) (.cond (.tm 70) (.seq (.reg r_trace_Parse_15) .ret) .skip)) (.seq (.reg r_trace_Parse_16) .ret)))))))))
abbrev c_trace_Parse : CF := ⟨73, [(.cell 2 true 8), (.tm 3)], b_trace_Parse⟩
/-! polliwog/trace.Unit -/
abbrev r_trace_Unit_0 : List COp := [o 1 (.box (.tm 0)), o 2 (.mv (.k (.s [])))]
abbrev r_trace_Unit_1 : List COp := [o 6 (.load true 8 (.tm 1)), oC 7 n_pdu_PDU_Check [(.tm 6)], o 8 (.bin .neq (.tm 7) (.k (.i .i64 0)))]
abbrev r_trace_Unit_2 : List COp := [o 2 (.mv (.k (.s [])))]
abbrev r_trace_Unit_3 : List COp := [o 9 (.load true 8 (.tm 1)), oC 10 n_pdu_PDU_Name [(.tm 9)], o 3 (.mv (.tm 10))]
abbrev r_trace_Unit_4 : List COp := [o 11 (.faddr 0 (.tm 1)), o 12 (.load false 1 (.tm 11)), oC 13 n_trace_has [(.tm 12)], o 14 (.range (.tm 13))]
abbrev r_trace_Unit_5 : List COp := [o 15 (.next (.tm 14)), o 16 (.extract (.tm 15) 0)]
abbrev r_trace_Unit_6 : List COp := [o 17 (.extract (.tm 15) 2), o 5 (.mv (.tm 17))]
abbrev r_trace_Unit_7 : List COp := [o 18 (.mv (.tm 5))]
abbrev r_trace_Unit_8 : List COp := [o 30 (.bin .eql (.tm 18) (.k (.i .i32 115))), o 29 (.mv (.tm 30))]
abbrev r_trace_Unit_9 : List COp := [o 31 (.mv (.tm 3)), o 32 (.faddr 1 (.tm 1)), o 33 (.load false 1 (.tm 32)), oC 34 n_strconv_Itoa [(.tm 33)], o 35 (.bin .add (.k (.s [32, 115, 113])) (.tm 34)), o 36 (.bin .add (.tm 31) (.tm 35)), o 3 (.mv (.tm 36))]
abbrev r_trace_Unit_10 : List COp := [o 38 (.bin .eql (.tm 18) (.k (.i .i32 110))), o 37 (.mv (.tm 38))]
abbrev r_trace_Unit_11 : List COp := [o 39 (.mv (.tm 3)), o 40 (.faddr 2 (.tm 1)), o 41 (.load false 1 (.tm 40)), o 42 (.convI .i64 (.tm 41)), oC 43 n_strconv_Itoa [(.tm 42)], o 44 (.bin .add (.k (.s [32, 110])) (.tm 43)), o 45 (.bin .add (.tm 39) (.tm 44)), o 3 (.mv (.tm 45))]
abbrev r_trace_Unit_12 : List COp := [o 47 (.bin .eql (.tm 18) (.k (.i .i32 112))), o 46 (.mv (.tm 47))]
abbrev r_trace_Unit_13 : List COp := [o 48 (.mv (.tm 3)), o 49 (.faddr 3 (.tm 1)), o 50 (.load false 1 (.tm 49)), o 51 (.convI .i64 (.tm 50)), oC 52 n_strconv_Itoa [(.tm 51)], o 53 (.bin .add (.k (.s [32, 112, 115])) (.tm 52)), o 54 (.bin .add (.tm 48) (.tm 53)), o 3 (.mv (.tm 54))]
abbrev r_trace_Unit_14 : List COp := [o 56 (.bin .eql (.tm 18) (.k (.i .i32 109))), o 55 (.mv (.tm 56))]
abbrev r_trace_Unit_15 : List COp := [o 57 (.mv (.tm 3)), o 58 (.faddr 4 (.tm 1)), o 59 (.load false 1 (.tm 58)), o 60 (.convI .i64 (.tm 59)), oC 61 n_strconv_Itoa [(.tm 60)], o 62 (.bin .add (.k (.s [32, 109, 114])) (.tm 61)), o 63 (.bin .add (.tm 57) (.tm 62)), o 3 (.mv (.tm 63))]
abbrev r_trace_Unit_16 : List COp := [o 65 (.bin .eql (.tm 18) (.k (.i .i32 108))), o 64 (.mv (.tm 65))]
abbrev r_trace_Unit_17 : List COp := [o 66 (.mv (.tm 3)), o 67 (.faddr 5 (.tm 1)), o 68 (.load false 1 (.tm 67)), oC 69 n_trace_list [(.tm 68)], o 70 (.bin .add (.k (.s [32, 108])) (.tm 69)), o 71 (.bin .add (.tm 66) (.tm 70)), o 3 (.mv (.tm 71))]
abbrev r_trace_Unit_18 : List COp := [o 19 (.faddr 6 (.tm 1)), o 20 (.load false 1 (.tm 19))]
abbrev r_trace_Unit_19 : List COp := [o 21 (.mv (.tm 3)), o 22 (.bin .add (.tm 21) (.k (.s [32, 115, 101, 108, 102]))), o 3 (.mv (.tm 22))]
abbrev r_trace_Unit_20 : List COp := [o 23 (.mv (.tm 3)), o 24 (.faddr 7 (.tm 1)), o 25 (.load false 1 (.tm 24)), oC 26 n_event_Hex [(.tm 25)], o 27 (.bin .add (.k (.s [32, 100])) (.tm 26)), o 28 (.bin .add (.tm 23) (.tm 27)), o 3 (.mv (.tm 28))]
def l_trace_Unit_0 : C := (.seq (.reg r_trace_Unit_5) (.seq (.cond (.tm 16) .skip (.exit 0)) (.blk 1 (.seq (.reg r_trace_Unit_6) (.seq (.reg r_trace_Unit_7) (.blk 2 (.seq (.reg r_trace_Unit_8) (.cond (.tm 29) (.reg r_trace_Unit_9) (.seq (.reg r_trace_Unit_10) (.cond (.tm 37) (.reg r_trace_Unit_11) (.seq (.reg r_trace_Unit_12) (.cond (.tm 46) (.reg r_trace_Unit_13) (.seq (.reg r_trace_Unit_14) (.cond (.tm 55) (.reg r_trace_Unit_15) (.seq (.reg r_trace_Unit_16) (.cond (.tm 64) (.reg r_trace_Unit_17) (.seq (.seq (.reg r_trace_Unit_18) (.cond (.tm 20) (.reg r_trace_Unit_19) .skip)) (.reg r_trace_Unit_20))))))))))))))))))
abbrev r_trace_Unit_21 : List COp := [o 72 (.mv (.tm 3)), o 2 (.mv (.tm 72))]
def b_trace_Unit : C := (.seq (.reg r_trace_Unit_0) (.seq (.seq (.reg r_trace_Unit_1) (.cond (.tm 8) (.seq (.reg r_trace_Unit_2) .ret) .skip)) (.seq (.reg r_trace_Unit_3) (.seq (.seq (.reg r_trace_Unit_4) (.blk 0 (.loop l_trace_Unit_0))) (.seq (.reg r_trace_Unit_21) .ret)))))
abbrev c_trace_Unit : CF := ⟨73, [(.tm 2)], b_trace_Unit⟩
/-! (polliwog/pdu.PDU).Check -/
abbrev r_pdu_PDU_Check_0 : List COp := [o 1 (.box (.tm 0)), o 2 (.mv (.k (.i .i64 0)))]
abbrev r_pdu_PDU_Check_1 : List COp := [o 7 (.faddr 0 (.tm 1)), o 8 (.load false 1 (.tm 7)), oC 9 n_pdu_shapeOf [(.tm 8)], o 3 (.alloc [(.i .i64 0), (.b false), (.b false), (.i .i64 0), (.b false), (.b false), (.b false), (.b false)] 65), oN (.store 8 (.tm 3) (.tm 9))]
abbrev r_pdu_PDU_Check_2 : List COp := [o 10 (.faddr 7 (.tm 3)), o 11 (.load false 1 (.tm 10)), o 12 (.un .not (.tm 11))]
abbrev r_pdu_PDU_Check_3 : List COp := [o 2 (.mv (.k (.i .i64 10)))]
abbrev r_pdu_PDU_Check_4 : List COp := [o 13 (.faddr 7 (.tm 1)), o 14 (.load false 1 (.tm 13)), o 15 (.len .str (.tm 14)), o 16 (.faddr 0 (.tm 3)), o 17 (.load false 1 (.tm 16)), o 18 (.bin .gtr (.tm 15) (.tm 17)), o 19 (.mv (.tm 18)), ⟨(some 20), (.op (.faddr 0 (.tm 3))), (some (19, true))⟩, ⟨(some 21), (.op (.load false 1 (.tm 20))), (some (19, true))⟩, ⟨(some 22), (.op (.bin .gtr (.tm 21) (.k (.i .i64 0)))), (some (19, true))⟩, o 23 (.pick (.tm 19) (.tm 22) (.k (.b false))), o 24 (.mv (.tm 23)), ⟨(some 25), (.op (.faddr 5 (.tm 1))), (some (24, false))⟩, ⟨(some 26), (.op (.load false 1 (.tm 25))), (some (24, false))⟩, ⟨(some 27), (.op (.len .slice (.tm 26))), (some (24, false))⟩, ⟨(some 28), (.op (.bin .gtr (.tm 27) (.k (.i .i64 128)))), (some (24, false))⟩, o 29 (.pick (.tm 24) (.k (.b true)) (.tm 28))]
abbrev r_pdu_PDU_Check_5 : List COp := [o 2 (.mv (.k (.i .i64 6)))]
abbrev r_pdu_PDU_Check_6 : List COp := [o 30 (.faddr 5 (.tm 1)), o 31 (.load false 1 (.tm 30)), o 32 (.len .slice (.tm 31)), o 33 (.faddr 3 (.tm 3)), o 34 (.load false 1 (.tm 33)), o 35 (.bin .eql (.tm 32) (.tm 34)), o 36 (.mv (.tm 35)), ⟨(some 37), (.op (.faddr 3 (.tm 3))), (some (36, false))⟩, ⟨(some 38), (.op (.load false 1 (.tm 37))), (some (36, false))⟩, ⟨(some 39), (.op (.bin .lss (.tm 38) (.k (.i .i64 0)))), (some (36, false))⟩, ⟨(some 40), (.op (.mv (.tm 39))), (some (36, false))⟩, ⟨(some 41), (.op (.faddr 5 (.tm 1))), (some (40, true))⟩, ⟨(some 42), (.op (.load false 1 (.tm 41))), (some (40, true))⟩, ⟨(some 43), (.op (.len .slice (.tm 42))), (some (40, true))⟩, ⟨(some 44), (.op (.bin .rem (.tm 43) (.k (.i .i64 2)))), (some (40, true))⟩, ⟨(some 45), (.op (.bin .eql (.tm 44) (.k (.i .i64 0)))), (some (40, true))⟩, ⟨(some 46), (.op (.pick (.tm 40) (.tm 45) (.k (.b false)))), (some (36, false))⟩, o 47 (.pick (.tm 36) (.k (.b true)) (.tm 46)), o 4 (.mv (.tm 47))]
abbrev r_pdu_PDU_Check_7 : List COp := [o 48 (.faddr 2 (.tm 1)), o 49 (.load false 1 (.tm 48)), oC 50 n_pdu_low [(.tm 49)], o 51 (.mv (.tm 50)), ⟨(some 52), (.op (.faddr 3 (.tm 1))), (some (51, true))⟩, ⟨(some 53), (.op (.load false 1 (.tm 52))), (some (51, true))⟩, ⟨(some 54), (.callf n_pdu_low [(.tm 53)]), (some (51, true))⟩, o 55 (.pick (.tm 51) (.tm 54) (.k (.b false))), o 56 (.mv (.tm 55)), ⟨(some 57), (.op (.faddr 4 (.tm 1))), (some (56, true))⟩, ⟨(some 58), (.op (.load false 1 (.tm 57))), (some (56, true))⟩, ⟨(some 59), (.callf n_pdu_low [(.tm 58)]), (some (56, true))⟩, o 60 (.pick (.tm 56) (.tm 59) (.k (.b false))), o 61 (.mv (.tm 60)), ⟨(some 62), (.op (.faddr 5 (.tm 1))), (some (61, true))⟩, ⟨(some 63), (.op (.load false 1 (.tm 62))), (some (61, true))⟩, ⟨(some 64), (.callf n_slices_ContainsFunc_Lseq_Num_seq_Num [(.tm 63), (.fn n_pdu_PDU_Check_1)]), (some (61, true))⟩, ⟨(some 65), (.op (.un .not (.tm 64))), (some (61, true))⟩, o 66 (.pick (.tm 61) (.tm 65) (.k (.b false))), o 5 (.mv (.tm 66))]
abbrev r_pdu_PDU_Check_8 : List COp := [o 67 (.faddr 0 (.tm 3)), o 68 (.load false 1 (.tm 67)), o 69 (.bin .gtr (.tm 68) (.k (.i .i64 0))), o 70 (.mv (.tm 69)), ⟨(some 71), (.op (.faddr 7 (.tm 1))), (some (70, false))⟩, ⟨(some 72), (.op (.load false 1 (.tm 71))), (some (70, false))⟩, ⟨(some 73), (.op (.bin .eql (.tm 72) (.k (.s [])))), (some (70, false))⟩, o 74 (.pick (.tm 70) (.k (.b true)) (.tm 73)), o 75 (.mv (.tm 74)), ⟨(some 76), (.op (.faddr 2 (.tm 3))), (some (75, true))⟩, ⟨(some 77), (.op (.load false 1 (.tm 76))), (some (75, true))⟩, ⟨(some 78), (.op (.mv (.tm 77))), (some (75, true))⟩, ⟨(some 79), (.op (.faddr 2 (.tm 1))), (some (78, false))⟩, ⟨(some 80), (.op (.load false 1 (.tm 79))), (some (78, false))⟩, ⟨(some 81), (.op (.bin .eql (.tm 80) (.k (.i .u32 0)))), (some (78, false))⟩, ⟨(some 82), (.op (.pick (.tm 78) (.k (.b true)) (.tm 81))), (some (75, true))⟩, o 83 (.pick (.tm 75) (.tm 82) (.k (.b false))), o 84 (.mv (.tm 83)), ⟨(some 85), (.op (.faddr 4 (.tm 3))), (some (84, true))⟩, ⟨(some 86), (.op (.load false 1 (.tm 85))), (some (84, true))⟩, ⟨(some 87), (.op (.mv (.tm 86))), (some (84, true))⟩, ⟨(some 88), (.op (.faddr 3 (.tm 1))), (some (87, false))⟩, ⟨(some 89), (.op (.load false 1 (.tm 88))), (some (87, false))⟩, ⟨(some 90), (.op (.bin .eql (.tm 89) (.k (.i .u32 0)))), (some (87, false))⟩, ⟨(some 91), (.op (.pick (.tm 87) (.k (.b true)) (.tm 90))), (some (84, true))⟩, o 92 (.pick (.tm 84) (.tm 91) (.k (.b false))), o 93 (.mv (.tm 92)), ⟨(some 94), (.op (.faddr 5 (.tm 3))), (some (93, true))⟩, ⟨(some 95), (.op (.load false 1 (.tm 94))), (some (93, true))⟩, ⟨(some 96), (.op (.mv (.tm 95))), (some (93, true))⟩, ⟨(some 97), (.op (.faddr 4 (.tm 1))), (some (96, false))⟩, ⟨(some 98), (.op (.load false 1 (.tm 97))), (some (96, false))⟩, ⟨(some 99), (.op (.bin .eql (.tm 98) (.k (.i .u32 0)))), (some (96, false))⟩, ⟨(some 100), (.op (.pick (.tm 96) (.k (.b true)) (.tm 99))), (some (93, true))⟩, o 101 (.pick (.tm 93) (.tm 100) (.k (.b false))), o 102 (.mv (.tm 101)), ⟨(some 103), (.op (.faddr 6 (.tm 3))), (some (102, true))⟩, ⟨(some 104), (.op (.load false 1 (.tm 103))), (some (102, true))⟩, ⟨(some 105), (.op (.mv (.tm 104))), (some (102, true))⟩, ⟨(some 106), (.op (.faddr 6 (.tm 1))), (some (105, false))⟩, ⟨(some 107), (.op (.load false 1 (.tm 106))), (some (105, false))⟩, ⟨(some 108), (.op (.un .not (.tm 107))), (some (105, false))⟩, ⟨(some 109), (.op (.pick (.tm 105) (.k (.b true)) (.tm 108))), (some (102, true))⟩, o 110 (.pick (.tm 102) (.tm 109) (.k (.b false))), o 6 (.mv (.tm 110))]
abbrev r_pdu_PDU_Check_9 : List COp := [o 111 (.mv (.tm 4)), o 112 (.un .not (.tm 111)), o 113 (.mv (.tm 112)), ⟨(some 114), (.op (.mv (.tm 5))), (some (113, false))⟩, ⟨(some 115), (.op (.un .not (.tm 114))), (some (113, false))⟩, o 116 (.pick (.tm 113) (.k (.b true)) (.tm 115)), o 117 (.mv (.tm 116)), ⟨(some 118), (.op (.mv (.tm 6))), (some (117, false))⟩, ⟨(some 119), (.op (.un .not (.tm 118))), (some (117, false))⟩, o 120 (.pick (.tm 117) (.k (.b true)) (.tm 119)), o 121 (.mv (.tm 120)), ⟨(some 122), (.op (.faddr 1 (.tm 1))), (some (121, false))⟩, ⟨(some 123), (.op (.load false 1 (.tm 122))), (some (121, false))⟩, ⟨(some 124), (.op (.bin .lss (.tm 123) (.k (.i .i64 0)))), (some (121, false))⟩, o 125 (.pick (.tm 121) (.k (.b true)) (.tm 124)), o 126 (.mv (.tm 125)), ⟨(some 127), (.op (.faddr 1 (.tm 1))), (some (126, false))⟩, ⟨(some 128), (.op (.load false 1 (.tm 127))), (some (126, false))⟩, ⟨(some 129), (.op (.bin .gtr (.tm 128) (.k (.i .i64 255)))), (some (126, false))⟩, o 130 (.pick (.tm 126) (.k (.b true)) (.tm 129)), o 131 (.mv (.tm 130)), ⟨(some 132), (.op (.faddr 1 (.tm 3))), (some (131, false))⟩, ⟨(some 133), (.op (.load false 1 (.tm 132))), (some (131, false))⟩, ⟨(some 134), (.op (.un .not (.tm 133))), (some (131, false))⟩, ⟨(some 135), (.op (.mv (.tm 134))), (some (131, false))⟩, ⟨(some 136), (.op (.faddr 1 (.tm 1))), (some (135, true))⟩, ⟨(some 137), (.op (.load false 1 (.tm 136))), (some (135, true))⟩, ⟨(some 138), (.op (.bin .neq (.tm 137) (.k (.i .i64 0)))), (some (135, true))⟩, ⟨(some 139), (.op (.pick (.tm 135) (.tm 138) (.k (.b false)))), (some (131, false))⟩, o 140 (.pick (.tm 131) (.k (.b true)) (.tm 139))]
abbrev r_pdu_PDU_Check_10 : List COp := [o 2 (.mv (.k (.i .i64 1)))]
abbrev r_pdu_PDU_Check_11 : List COp := [o 2 (.mv (.k (.i .i64 0)))]
def b_pdu_PDU_Check : C := (.seq (.reg r_pdu_PDU_Check_0) (.seq (.reg r_pdu_PDU_Check_1) (.seq (.seq (.reg r_pdu_PDU_Check_2) (.cond (.tm 12) (.seq (.reg r_pdu_PDU_Check_3) .ret) .skip)) (.seq (.seq (.reg r_pdu_PDU_Check_4) (.cond (.tm 29) (.seq (.reg r_pdu_PDU_Check_5) .ret) .skip)) (.seq (.reg r_pdu_PDU_Check_6) (.seq (.reg r_pdu_PDU_Check_7) (.seq (.reg r_pdu_PDU_Check_8) (.seq (.seq (.reg r_pdu_PDU_Check_9) (.cond (.tm 140) (.seq (.reg r_pdu_PDU_Check_10) .ret) .skip)) (.seq (.reg r_pdu_PDU_Check_11) .ret)))))))))
abbrev c_pdu_PDU_Check : CF := ⟨141, [(.tm 2)], b_pdu_PDU_Check⟩
/-! polliwog/polliwoglaw06.Few -/
abbrev r_law06_Few_0 : List COp := [o 1 (.box (.tm 0)), o 2 (.alloc [(.i .i64 0), (.i .i64 0), (.i .i64 0), (.i .i64 0), (.i .i64 0), (.sl none 0 (some 0) 0), (.b false), (.s [])] 37)]
abbrev r_law06_Few_1 : List COp := [o 3 (.mv (.fn n_law06_Few_1))]
abbrev r_law06_Few_2 : List COp := [o 6 (.mv (.tm 3)), o 7 (.faddr 2 (.tm 1)), o 8 (.load false 1 (.tm 7)), o 10 (.mv (.tm 3)), o 11 (.faddr 3 (.tm 1)), o 12 (.load false 1 (.tm 11)), o 14 (.mv (.tm 3)), o 15 (.faddr 4 (.tm 1)), o 16 (.load false 1 (.tm 15)), o 18 (.faddr 7 (.tm 1)), o 19 (.load false 1 (.tm 18)), ⟨(some 9), (.callv (.tm 6) [(.tm 8)]), none⟩, o 21 (.faddr 2 (.tm 1)), ⟨(some 13), (.callv (.tm 10) [(.tm 12)]), none⟩, ⟨(some 17), (.callv (.tm 14) [(.tm 16)]), none⟩, oC 20 n_law02_Cut [(.tm 19), (.k (.i .i64 210))], oN (.store 1 (.tm 21) (.tm 9)), o 22 (.faddr 3 (.tm 1)), oN (.store 1 (.tm 22) (.tm 13)), o 23 (.faddr 4 (.tm 1)), oN (.store 1 (.tm 23) (.tm 17)), o 24 (.faddr 7 (.tm 1)), oN (.store 1 (.tm 24) (.tm 20))]
abbrev r_law06_Few_3 : List COp := [o 4 (.mv (.k (.sl none 0 (some 0) 0)))]
abbrev r_law06_Few_4 : List COp := [o 5 (.mv (.k (.i .i64 0)))]
abbrev r_law06_Few_5 : List COp := [o 25 (.mv (.tm 5)), o 26 (.faddr 5 (.tm 1)), o 27 (.load false 1 (.tm 26)), o 28 (.len .slice (.tm 27)), o 29 (.bin .lss (.tm 25) (.tm 28)), o 30 (.mv (.tm 29)), ⟨(some 31), (.op (.mv (.tm 5))), (some (30, true))⟩, ⟨(some 32), (.op (.bin .lss (.tm 31) (.k (.i .i64 140)))), (some (30, true))⟩, o 33 (.pick (.tm 30) (.tm 32) (.k (.b false)))]
abbrev r_law06_Few_6 : List COp := [o 36 (.mv (.tm 4)), o 37 (.mv (.tm 3)), o 38 (.faddr 5 (.tm 1)), o 39 (.load false 1 (.tm 38)), o 40 (.mv (.tm 5)), o 41 (.iaddrL 1 (.tm 39) (.tm 40)), o 42 (.load false 1 (.tm 41)), ⟨(some 43), (.callv (.tm 37) [(.tm 42)]), none⟩, o 44 (.bslice 1 [(.i .i64 0)] 1 [(0, (.tm 43))]), o 45 (.append false 1 8 (.tm 36) (.tm 44)), o 4 (.mv (.tm 45))]
abbrev r_law06_Few_7 : List COp := [o 34 (.mv (.tm 5)), o 35 (.bin .add (.tm 34) (.k (.i .i64 1))), o 5 (.mv (.tm 35))]
def l_law06_Few_0 : C := (.seq (.seq (.reg r_law06_Few_5) (.cond (.tm 33) .skip (.exit 0))) (.seq (.blk 1 (.reg r_law06_Few_6)) (.reg r_law06_Few_7)))
abbrev r_law06_Few_8 : List COp := [o 46 (.mv (.tm 4)), o 47 (.faddr 5 (.tm 1)), oN (.store 1 (.tm 47) (.tm 46))]
abbrev r_law06_Few_9 : List COp := [o 48 (.load true 8 (.tm 1)), oN (.store 8 (.tm 2) (.tm 48))]
def b_law06_Few : C := (.seq (.reg r_law06_Few_0) (.seq (.reg r_law06_Few_1) (.seq (.draw r_law06_Few_2 [(5, [12]), (8, [12, 14]), (10, [12, 14, 15])] []) (.seq (.reg r_law06_Few_3) (.seq (.seq (.reg r_law06_Few_4) (.blk 0 (.loop l_law06_Few_0))) (.seq (.reg r_law06_Few_8) (.seq (.reg r_law06_Few_9) .ret)))))))
abbrev c_law06_Few : CF := ⟨49, [(.cell 2 true 8)], b_law06_Few⟩
/-! polliwog/polliwogref06.Check -/
abbrev r_ref06_Check_0 : List COp := [o 1 (.box (.tm 0)), o 2 (.mv (.k (.i .i64 0)))]
abbrev r_ref06_Check_1 : List COp := [o 6 (.faddr 0 (.tm 1)), o 7 (.load false 1 (.tm 6)), o 8 (.bin .lss (.tm 7) (.k (.i .i64 1))), o 9 (.mv (.tm 8)), ⟨(some 10), (.op (.faddr 0 (.tm 1))), (some (9, false))⟩, ⟨(some 11), (.op (.load false 1 (.tm 10))), (some (9, false))⟩, ⟨(some 12), (.op (.bin .gtr (.tm 11) (.k (.i .i64 15)))), (some (9, false))⟩, o 13 (.pick (.tm 9) (.k (.b true)) (.tm 12))]
abbrev r_ref06_Check_2 : List COp := [o 2 (.mv (.k (.i .i64 10)))]
abbrev r_ref06_Check_3 : List COp := [o 14 (.faddr 0 (.tm 1)), o 15 (.load false 1 (.tm 14)), oC 16 n_ref06_Most [(.tm 15)], o 3 (.mv (.tm 16))]
abbrev r_ref06_Check_4 : List COp := [o 17 (.mv (.tm 3)), o 18 (.bin .gtr (.tm 17) (.k (.i .i64 0))), o 19 (.mv (.tm 18)), ⟨(some 20), (.op (.faddr 7 (.tm 1))), (some (19, true))⟩, ⟨(some 21), (.op (.load false 1 (.tm 20))), (some (19, true))⟩, ⟨(some 22), (.op (.len .str (.tm 21))), (some (19, true))⟩, ⟨(some 23), (.op (.mv (.tm 3))), (some (19, true))⟩, ⟨(some 24), (.op (.bin .gtr (.tm 22) (.tm 23))), (some (19, true))⟩, o 25 (.pick (.tm 19) (.tm 24) (.k (.b false))), o 26 (.mv (.tm 25)), ⟨(some 27), (.op (.faddr 5 (.tm 1))), (some (26, false))⟩, ⟨(some 28), (.op (.load false 1 (.tm 27))), (some (26, false))⟩, ⟨(some 29), (.op (.len .slice (.tm 28))), (some (26, false))⟩, ⟨(some 30), (.op (.bin .gtr (.tm 29) (.k (.i .i64 128)))), (some (26, false))⟩, o 31 (.pick (.tm 26) (.k (.b true)) (.tm 30))]
abbrev r_ref06_Check_5 : List COp := [o 2 (.mv (.k (.i .i64 6)))]
abbrev r_ref06_Check_6 : List COp := [o 32 (.mv (.tm 3)), o 33 (.bin .eql (.tm 32) (.k (.i .i64 0))), o 34 (.mv (.tm 33)), ⟨(some 35), (.op (.faddr 7 (.tm 1))), (some (34, true))⟩, ⟨(some 36), (.op (.load false 1 (.tm 35))), (some (34, true))⟩, ⟨(some 37), (.op (.bin .neq (.tm 36) (.k (.s [])))), (some (34, true))⟩, o 38 (.pick (.tm 34) (.tm 37) (.k (.b false))), o 39 (.mv (.tm 38)), ⟨(some 40), (.op (.faddr 2 (.tm 1))), (some (39, false))⟩, ⟨(some 41), (.op (.load false 1 (.tm 40))), (some (39, false))⟩, ⟨(some 42), (.callf n_ref06_low [(.tm 41)]), (some (39, false))⟩, ⟨(some 43), (.op (.un .not (.tm 42))), (some (39, false))⟩, o 44 (.pick (.tm 39) (.k (.b true)) (.tm 43)), o 45 (.mv (.tm 44)), ⟨(some 46), (.op (.faddr 3 (.tm 1))), (some (45, false))⟩, ⟨(some 47), (.op (.load false 1 (.tm 46))), (some (45, false))⟩, ⟨(some 48), (.callf n_ref06_low [(.tm 47)]), (some (45, false))⟩, ⟨(some 49), (.op (.un .not (.tm 48))), (some (45, false))⟩, o 50 (.pick (.tm 45) (.k (.b true)) (.tm 49)), o 51 (.mv (.tm 50)), ⟨(some 52), (.op (.faddr 4 (.tm 1))), (some (51, false))⟩, ⟨(some 53), (.op (.load false 1 (.tm 52))), (some (51, false))⟩, ⟨(some 54), (.callf n_ref06_low [(.tm 53)]), (some (51, false))⟩, ⟨(some 55), (.op (.un .not (.tm 54))), (some (51, false))⟩, o 56 (.pick (.tm 51) (.k (.b true)) (.tm 55)), o 57 (.mv (.tm 56)), ⟨(some 58), (.op (.faddr 1 (.tm 1))), (some (57, false))⟩, ⟨(some 59), (.op (.load false 1 (.tm 58))), (some (57, false))⟩, ⟨(some 60), (.op (.bin .lss (.tm 59) (.k (.i .i64 0)))), (some (57, false))⟩, o 61 (.pick (.tm 57) (.k (.b true)) (.tm 60)), o 62 (.mv (.tm 61)), ⟨(some 63), (.op (.faddr 1 (.tm 1))), (some (62, false))⟩, ⟨(some 64), (.op (.load false 1 (.tm 63))), (some (62, false))⟩, ⟨(some 65), (.op (.bin .gtr (.tm 64) (.k (.i .i64 255)))), (some (62, false))⟩, o 66 (.pick (.tm 62) (.k (.b true)) (.tm 65))]
abbrev r_ref06_Check_7 : List COp := [o 2 (.mv (.k (.i .i64 1)))]
abbrev r_ref06_Check_8 : List COp := [o 67 (.faddr 0 (.tm 1)), o 68 (.load false 1 (.tm 67)), oC 69 n_ref06_HasSQ [(.tm 68)], o 70 (.un .not (.tm 69)), o 71 (.mv (.tm 70)), ⟨(some 72), (.op (.faddr 1 (.tm 1))), (some (71, true))⟩, ⟨(some 73), (.op (.load false 1 (.tm 72))), (some (71, true))⟩, ⟨(some 74), (.op (.bin .neq (.tm 73) (.k (.i .i64 0)))), (some (71, true))⟩, o 75 (.pick (.tm 71) (.tm 74) (.k (.b false))), o 76 (.mv (.tm 75)), ⟨(some 77), (.op (.faddr 0 (.tm 1))), (some (76, false))⟩, ⟨(some 78), (.op (.load false 1 (.tm 77))), (some (76, false))⟩, ⟨(some 79), (.callf n_ref06_HasN [(.tm 78)]), (some (76, false))⟩, ⟨(some 80), (.op (.un .not (.tm 79))), (some (76, false))⟩, ⟨(some 81), (.op (.mv (.tm 80))), (some (76, false))⟩, ⟨(some 82), (.op (.faddr 2 (.tm 1))), (some (81, true))⟩, ⟨(some 83), (.op (.load false 1 (.tm 82))), (some (81, true))⟩, ⟨(some 84), (.op (.bin .neq (.tm 83) (.k (.i .i64 0)))), (some (81, true))⟩, ⟨(some 85), (.op (.pick (.tm 81) (.tm 84) (.k (.b false)))), (some (76, false))⟩, o 86 (.pick (.tm 76) (.k (.b true)) (.tm 85)), o 87 (.mv (.tm 86)), ⟨(some 88), (.op (.faddr 0 (.tm 1))), (some (87, false))⟩, ⟨(some 89), (.op (.load false 1 (.tm 88))), (some (87, false))⟩, ⟨(some 90), (.op (.bin .neq (.tm 89) (.k (.i .i64 3)))), (some (87, false))⟩, ⟨(some 91), (.op (.mv (.tm 90))), (some (87, false))⟩, ⟨(some 92), (.op (.faddr 6 (.tm 1))), (some (91, true))⟩, ⟨(some 93), (.op (.load false 1 (.tm 92))), (some (91, true))⟩, ⟨(some 94), (.op (.pick (.tm 91) (.tm 93) (.k (.b false)))), (some (87, false))⟩, o 95 (.pick (.tm 87) (.k (.b true)) (.tm 94))]
abbrev r_ref06_Check_9 : List COp := [o 2 (.mv (.k (.i .i64 1)))]
abbrev r_ref06_Check_10 : List COp := [o 96 (.faddr 0 (.tm 1)), o 97 (.load false 1 (.tm 96)), o 98 (.bslice 1 [(.i .i64 0)] 2 [(0, (.k (.i .i64 10))), (1, (.k (.i .i64 11)))]), oC 99 n_ref06_in [(.tm 97), (.tm 98)], o 100 (.un .not (.tm 99)), o 101 (.mv (.tm 100)), ⟨(some 102), (.op (.faddr 3 (.tm 1))), (some (101, true))⟩, ⟨(some 103), (.op (.load false 1 (.tm 102))), (some (101, true))⟩, ⟨(some 104), (.op (.bin .neq (.tm 103) (.k (.i .i64 0)))), (some (101, true))⟩, o 105 (.pick (.tm 101) (.tm 104) (.k (.b false))), o 106 (.mv (.tm 105)), ⟨(some 107), (.op (.faddr 0 (.tm 1))), (some (106, false))⟩, ⟨(some 108), (.op (.load false 1 (.tm 107))), (some (106, false))⟩, ⟨(some 109), (.op (.bslice 1 [(.i .i64 0)] 2 [(0, (.k (.i .i64 11))), (1, (.k (.i .i64 12)))])), (some (106, false))⟩, ⟨(some 110), (.callf n_ref06_in [(.tm 108), (.tm 109)]), (some (106, false))⟩, ⟨(some 111), (.op (.un .not (.tm 110))), (some (106, false))⟩, ⟨(some 112), (.op (.mv (.tm 111))), (some (106, false))⟩, ⟨(some 113), (.op (.faddr 4 (.tm 1))), (some (112, true))⟩, ⟨(some 114), (.op (.load false 1 (.tm 113))), (some (112, true))⟩, ⟨(some 115), (.op (.bin .neq (.tm 114) (.k (.i .i64 0)))), (some (112, true))⟩, ⟨(some 116), (.op (.pick (.tm 112) (.tm 115) (.k (.b false)))), (some (106, false))⟩, o 117 (.pick (.tm 106) (.k (.b true)) (.tm 116))]
abbrev r_ref06_Check_11 : List COp := [o 2 (.mv (.k (.i .i64 1)))]
abbrev r_ref06_Check_12 : List COp := [o 118 (.faddr 0 (.tm 1)), o 119 (.load false 1 (.tm 118)), o 120 (.bin .eql (.tm 119) (.k (.i .i64 11))), o 121 (.mv (.tm 120)), ⟨(some 122), (.op (.faddr 5 (.tm 1))), (some (121, true))⟩, ⟨(some 123), (.op (.load false 1 (.tm 122))), (some (121, true))⟩, ⟨(some 124), (.op (.len .slice (.tm 123))), (some (121, true))⟩, ⟨(some 125), (.op (.bin .rem (.tm 124) (.k (.i .i64 2)))), (some (121, true))⟩, ⟨(some 126), (.op (.bin .neq (.tm 125) (.k (.i .i64 0)))), (some (121, true))⟩, o 127 (.pick (.tm 121) (.tm 126) (.k (.b false))), o 128 (.mv (.tm 127)), ⟨(some 129), (.op (.faddr 0 (.tm 1))), (some (128, false))⟩, ⟨(some 130), (.op (.load false 1 (.tm 129))), (some (128, false))⟩, ⟨(some 131), (.op (.bin .eql (.tm 130) (.k (.i .i64 12)))), (some (128, false))⟩, ⟨(some 132), (.op (.mv (.tm 131))), (some (128, false))⟩, ⟨(some 133), (.op (.faddr 5 (.tm 1))), (some (132, true))⟩, ⟨(some 134), (.op (.load false 1 (.tm 133))), (some (132, true))⟩, ⟨(some 135), (.op (.len .slice (.tm 134))), (some (132, true))⟩, ⟨(some 136), (.op (.bin .neq (.tm 135) (.k (.i .i64 2)))), (some (132, true))⟩, ⟨(some 137), (.op (.pick (.tm 132) (.tm 136) (.k (.b false)))), (some (128, false))⟩, o 138 (.pick (.tm 128) (.k (.b true)) (.tm 137)), o 139 (.mv (.tm 138)), ⟨(some 140), (.op (.faddr 0 (.tm 1))), (some (139, false))⟩, ⟨(some 141), (.op (.load false 1 (.tm 140))), (some (139, false))⟩, ⟨(some 142), (.op (.bin .neq (.tm 141) (.k (.i .i64 11)))), (some (139, false))⟩, ⟨(some 143), (.op (.mv (.tm 142))), (some (139, false))⟩, ⟨(some 144), (.op (.faddr 0 (.tm 1))), (some (143, true))⟩, ⟨(some 145), (.op (.load false 1 (.tm 144))), (some (143, true))⟩, ⟨(some 146), (.op (.bin .neq (.tm 145) (.k (.i .i64 12)))), (some (143, true))⟩, ⟨(some 147), (.op (.pick (.tm 143) (.tm 146) (.k (.b false)))), (some (139, false))⟩, ⟨(some 148), (.op (.mv (.tm 147))), (some (139, false))⟩, ⟨(some 149), (.op (.faddr 5 (.tm 1))), (some (148, true))⟩, ⟨(some 150), (.op (.load false 1 (.tm 149))), (some (148, true))⟩, ⟨(some 151), (.op (.len .slice (.tm 150))), (some (148, true))⟩, ⟨(some 152), (.op (.bin .gtr (.tm 151) (.k (.i .i64 0)))), (some (148, true))⟩, ⟨(some 153), (.op (.pick (.tm 148) (.tm 152) (.k (.b false)))), (some (139, false))⟩, o 154 (.pick (.tm 139) (.k (.b true)) (.tm 153))]
abbrev r_ref06_Check_13 : List COp := [o 2 (.mv (.k (.i .i64 1)))]
abbrev r_ref06_Check_14 : List COp := [o 155 (.faddr 5 (.tm 1)), o 156 (.load false 1 (.tm 155)), o 157 (.len .slice (.tm 156)), o 158 (.mv (.k (.i .i64 0)))]
abbrev r_ref06_Check_15 : List COp := [o 159 (.bin .lss (.tm 158) (.tm 157))]
abbrev r_ref06_Check_16 : List COp := [o 160 (.iaddrL 1 (.tm 156) (.tm 158)), o 161 (.load false 1 (.tm 160)), o 5 (.mv (.tm 161))]
abbrev r_ref06_Check_17 : List COp := [o 162 (.mv (.tm 5)), oC 163 n_ref06_low [(.tm 162)], o 164 (.un .not (.tm 163))]
abbrev r_ref06_Check_18 : List COp := [o 2 (.mv (.k (.i .i64 1)))]
abbrev r_ref06_Check_19 : List COp := [o 165 (.bin .add (.tm 158) (.k (.i .i64 1))), o 158 (.mv (.tm 165))]
def l_ref06_Check_0 : C := (.seq (.reg r_ref06_Check_15) (.seq (.cond (.tm 159) .skip (.exit 0)) (.seq (.blk 1 (.seq (.reg r_ref06_Check_16) (.seq (.reg r_ref06_Check_17) (.cond (.tm 164) (.seq (.reg r_ref06_Check_18) .ret) .skip)))) (.reg r_ref06_Check_19))))
abbrev r_ref06_Check_20 : List COp := [o 2 (.mv (.k (.i .i64 0)))]
def b_ref06_Check : C := (.seq (.reg r_ref06_Check_0) (.seq (.seq (.reg r_ref06_Check_1) (.cond (.tm 13) (.seq (.reg r_ref06_Check_2) .ret) .skip)) (.seq (.reg r_ref06_Check_3) (.seq (.seq (.reg r_ref06_Check_4) (.cond (.tm 31) (.seq (.reg r_ref06_Check_5) .ret) .skip)) (.seq (.seq (.reg r_ref06_Check_6) (.cond (.tm 66) (.seq (.reg r_ref06_Check_7) .ret) .skip)) (.seq (.seq (.reg r_ref06_Check_8) (.cond (.tm 95) (.seq (.reg r_ref06_Check_9) .ret) .skip)) (.seq (.seq (.reg r_ref06_Check_10) (.cond (.tm 117) (.seq (.reg r_ref06_Check_11) .ret) .skip)) (.seq (.seq (.reg r_ref06_Check_12) (.cond (.tm 154) (.seq (.reg r_ref06_Check_13) .ret) .skip)) (.seq (.seq (.reg r_ref06_Check_14) (.blk 0 (.loop l_ref06_Check_0))) (.seq (.reg r_ref06_Check_20) .ret))))))))))
abbrev c_ref06_Check : CF := ⟨166, [(.tm 2)], b_ref06_Check⟩
/-! polliwog/polliwoglaw06.Own -/
abbrev r_law06_Own_0 : List COp := [o 1 (.box (.tm 0)), o 2 (.alloc [(.i .i64 0), (.i .i64 0), (.i .u32 0), (.i .u32 0), (.i .u32 0), (.sl none 0 (some 0) 0), (.b false), (.s [])] 28)]
abbrev r_law06_Own_1 : List COp := [o 6 (.faddr 0 (.tm 1)), o 7 (.load false 1 (.tm 6)), o 8 (.faddr 1 (.tm 1)), o 9 (.load false 1 (.tm 8)), o 10 (.faddr 2 (.tm 1)), o 11 (.load false 1 (.tm 10)), o 13 (.faddr 3 (.tm 1)), o 14 (.load false 1 (.tm 13)), o 16 (.faddr 4 (.tm 1)), o 17 (.load false 1 (.tm 16)), o 19 (.faddr 6 (.tm 1)), o 20 (.load false 1 (.tm 19)), o 21 (.faddr 7 (.tm 1)), o 22 (.load false 1 (.tm 21)), o 3 (.alloc [(.i .i64 0), (.i .i64 0), (.i .u32 0), (.i .u32 0), (.i .u32 0), (.sl none 0 (some 0) 0), (.b false), (.s [])] 28), oC 12 n_law06_num [(.tm 11)], oC 15 n_law06_num [(.tm 14)], oC 18 n_law06_num [(.tm 17)], o 23 (.build [(.i .i64 0), (.i .i64 0), (.i .u32 0), (.i .u32 0), (.i .u32 0), (.sl none 0 (some 0) 0), (.b false), (.s [])] [(0, 1, (.tm 7)), (1, 1, (.tm 9)), (2, 1, (.tm 12)), (3, 1, (.tm 15)), (4, 1, (.tm 18)), (6, 1, (.tm 20)), (7, 1, (.tm 22))]), oN (.store 8 (.tm 3) (.tm 23))]
abbrev r_law06_Own_2 : List COp := [o 24 (.faddr 5 (.tm 1)), o 25 (.load false 1 (.tm 24)), o 26 (.len .slice (.tm 25)), o 27 (.mv (.k (.i .i64 0)))]
abbrev r_law06_Own_3 : List COp := [o 28 (.bin .lss (.tm 27) (.tm 26))]
abbrev r_law06_Own_4 : List COp := [o 29 (.iaddrL 1 (.tm 25) (.tm 27)), o 30 (.load false 1 (.tm 29)), o 5 (.mv (.tm 30))]
abbrev r_law06_Own_5 : List COp := [o 31 (.faddr 5 (.tm 3)), o 32 (.load false 1 (.tm 31)), o 33 (.mv (.tm 5)), oC 34 n_law06_num [(.tm 33)], o 35 (.bslice 1 [(.i .u32 0)] 1 [(0, (.tm 34))]), o 36 (.append false 1 4 (.tm 32) (.tm 35)), o 37 (.faddr 5 (.tm 3)), oN (.store 1 (.tm 37) (.tm 36))]
abbrev r_law06_Own_6 : List COp := [o 38 (.bin .add (.tm 27) (.k (.i .i64 1))), o 27 (.mv (.tm 38))]
def l_law06_Own_0 : C := (.seq (.reg r_law06_Own_3) (.seq (.cond (.tm 28) .skip (.exit 0)) (.seq (.blk 1 (.seq (.reg r_law06_Own_4) (.draw r_law06_Own_5 [(1, [4])] []))) (.reg r_law06_Own_6))))
abbrev r_law06_Own_7 : List COp := [o 39 (.load true 8 (.tm 3)), oN (.store 8 (.tm 2) (.tm 39))]
def b_law06_Own : C := (.seq (.reg r_law06_Own_0) (.seq (.draw r_law06_Own_1 [(1, [16, 17, 18]), (3, [16, 17, 18]), (7, [16]), (9, [16, 17]), (11, [16, 17, 18]), (13, [16, 17, 18])] [(14, [16, 17, 18])]) (.seq (.seq (.reg r_law06_Own_2) (.blk 0 (.loop l_law06_Own_0))) (.seq (.reg r_law06_Own_7) .ret))))
abbrev c_law06_Own : CF := ⟨40, [(.cell 2 true 8)], b_law06_Own⟩
/-! polliwog/polliwoglaw06.Same -/
abbrev r_law06_Same_0 : List COp := [o 2 (.box (.tm 0)), o 3 (.box (.tm 1)), o 4 (.mv (.k (.b false)))]
abbrev r_law06_Same_1 : List COp := [o 7 (.faddr 0 (.tm 2)), o 8 (.load false 1 (.tm 7)), o 9 (.faddr 0 (.tm 3)), o 10 (.load false 1 (.tm 9)), o 11 (.bin .neq (.tm 8) (.tm 10)), o 12 (.mv (.tm 11)), ⟨(some 13), (.op (.faddr 1 (.tm 2))), (some (12, false))⟩, ⟨(some 14), (.op (.load false 1 (.tm 13))), (some (12, false))⟩, ⟨(some 15), (.op (.faddr 1 (.tm 3))), (some (12, false))⟩, ⟨(some 16), (.op (.load false 1 (.tm 15))), (some (12, false))⟩, ⟨(some 17), (.op (.bin .neq (.tm 14) (.tm 16))), (some (12, false))⟩, o 18 (.pick (.tm 12) (.k (.b true)) (.tm 17)), o 19 (.mv (.tm 18)), ⟨(some 20), (.op (.faddr 2 (.tm 2))), (some (19, false))⟩, ⟨(some 21), (.op (.load false 1 (.tm 20))), (some (19, false))⟩, ⟨(some 22), (.op (.convI .i64 (.tm 21))), (some (19, false))⟩, ⟨(some 23), (.op (.faddr 2 (.tm 3))), (some (19, false))⟩, ⟨(some 24), (.op (.load false 1 (.tm 23))), (some (19, false))⟩, ⟨(some 25), (.op (.bin .neq (.tm 22) (.tm 24))), (some (19, false))⟩, o 26 (.pick (.tm 19) (.k (.b true)) (.tm 25)), o 27 (.mv (.tm 26)), ⟨(some 28), (.op (.faddr 3 (.tm 2))), (some (27, false))⟩, ⟨(some 29), (.op (.load false 1 (.tm 28))), (some (27, false))⟩, ⟨(some 30), (.op (.convI .i64 (.tm 29))), (some (27, false))⟩, ⟨(some 31), (.op (.faddr 3 (.tm 3))), (some (27, false))⟩, ⟨(some 32), (.op (.load false 1 (.tm 31))), (some (27, false))⟩, ⟨(some 33), (.op (.bin .neq (.tm 30) (.tm 32))), (some (27, false))⟩, o 34 (.pick (.tm 27) (.k (.b true)) (.tm 33)), o 35 (.mv (.tm 34)), ⟨(some 36), (.op (.faddr 4 (.tm 2))), (some (35, false))⟩, ⟨(some 37), (.op (.load false 1 (.tm 36))), (some (35, false))⟩, ⟨(some 38), (.op (.convI .i64 (.tm 37))), (some (35, false))⟩, ⟨(some 39), (.op (.faddr 4 (.tm 3))), (some (35, false))⟩, ⟨(some 40), (.op (.load false 1 (.tm 39))), (some (35, false))⟩, ⟨(some 41), (.op (.bin .neq (.tm 38) (.tm 40))), (some (35, false))⟩, o 42 (.pick (.tm 35) (.k (.b true)) (.tm 41)), o 43 (.mv (.tm 42)), ⟨(some 44), (.op (.faddr 6 (.tm 2))), (some (43, false))⟩, ⟨(some 45), (.op (.load false 1 (.tm 44))), (some (43, false))⟩, ⟨(some 46), (.op (.faddr 6 (.tm 3))), (some (43, false))⟩, ⟨(some 47), (.op (.load false 1 (.tm 46))), (some (43, false))⟩, ⟨(some 48), (.op (.eq true .bool (.tm 45) (.tm 47))), (some (43, false))⟩, o 49 (.pick (.tm 43) (.k (.b true)) (.tm 48)), o 50 (.mv (.tm 49)), ⟨(some 51), (.op (.faddr 7 (.tm 2))), (some (50, false))⟩, ⟨(some 52), (.op (.load false 1 (.tm 51))), (some (50, false))⟩, ⟨(some 53), (.op (.faddr 7 (.tm 3))), (some (50, false))⟩, ⟨(some 54), (.op (.load false 1 (.tm 53))), (some (50, false))⟩, ⟨(some 55), (.op (.bin .neq (.tm 52) (.tm 54))), (some (50, false))⟩, o 56 (.pick (.tm 50) (.k (.b true)) (.tm 55)), o 57 (.mv (.tm 56)), ⟨(some 58), (.op (.faddr 5 (.tm 2))), (some (57, false))⟩, ⟨(some 59), (.op (.load false 1 (.tm 58))), (some (57, false))⟩, ⟨(some 60), (.op (.len .slice (.tm 59))), (some (57, false))⟩, ⟨(some 61), (.op (.faddr 5 (.tm 3))), (some (57, false))⟩, ⟨(some 62), (.op (.load false 1 (.tm 61))), (some (57, false))⟩, ⟨(some 63), (.op (.len .slice (.tm 62))), (some (57, false))⟩, ⟨(some 64), (.op (.bin .neq (.tm 60) (.tm 63))), (some (57, false))⟩, o 65 (.pick (.tm 57) (.k (.b true)) (.tm 64))]
abbrev r_law06_Same_2 : List COp := [o 4 (.mv (.k (.b false)))]
abbrev r_law06_Same_3 : List COp := [o 66 (.faddr 5 (.tm 3)), o 67 (.load false 1 (.tm 66)), o 68 (.len .slice (.tm 67)), o 69 (.mv (.k (.i .i64 0)))]
abbrev r_law06_Same_4 : List COp := [o 70 (.bin .lss (.tm 69) (.tm 68))]
abbrev r_law06_Same_5 : List COp := [o 71 (.mv (.tm 69)), o 72 (.iaddrL 1 (.tm 67) (.tm 69)), o 73 (.load false 1 (.tm 72)), o 5 (.mv (.tm 71)), o 6 (.mv (.tm 73))]
abbrev r_law06_Same_6 : List COp := [o 74 (.faddr 5 (.tm 2)), o 75 (.load false 1 (.tm 74)), o 76 (.mv (.tm 5)), o 77 (.iaddrL 1 (.tm 75) (.tm 76)), o 78 (.load false 1 (.tm 77)), o 79 (.convI .i64 (.tm 78)), o 80 (.mv (.tm 6)), o 81 (.bin .neq (.tm 79) (.tm 80))]
abbrev r_law06_Same_7 : List COp := [o 4 (.mv (.k (.b false)))]
abbrev r_law06_Same_8 : List COp := [o 82 (.bin .add (.tm 69) (.k (.i .i64 1))), o 69 (.mv (.tm 82))]
def l_law06_Same_0 : C := (.seq (.reg r_law06_Same_4) (.seq (.cond (.tm 70) .skip (.exit 0)) (.seq (.blk 1 (.seq (.reg r_law06_Same_5) (.seq (.reg r_law06_Same_6) (.cond (.tm 81) (.seq (.reg r_law06_Same_7) .ret) .skip)))) (.reg r_law06_Same_8))))
abbrev r_law06_Same_9 : List COp := [o 4 (.mv (.k (.b true)))]
def b_law06_Same : C := (.seq (.reg r_law06_Same_0) (.seq (.seq (.reg r_law06_Same_1) (.cond (.tm 65) (.seq (.reg r_law06_Same_2) .ret) .skip)) (.seq (.seq (.reg r_law06_Same_3) (.blk 0 (.loop l_law06_Same_0))) (.seq (.reg r_law06_Same_9) .ret))))
abbrev c_law06_Same : CF := ⟨83, [(.tm 4)], b_law06_Same⟩
/-! polliwog/polliwogref06.HasSQ -/
abbrev r_ref06_HasSQ_0 : List COp := [o 2 (.mv (.k (.b false)))]
abbrev r_ref06_HasSQ_1 : List COp := [o 3 (.mv (.tm 0)), o 4 (.bslice 1 [(.i .i64 0)] 9 [(0, (.k (.i .i64 1))), (1, (.k (.i .i64 2))), (2, (.k (.i .i64 3))), (3, (.k (.i .i64 4))), (4, (.k (.i .i64 5))), (5, (.k (.i .i64 6))), (6, (.k (.i .i64 7))), (7, (.k (.i .i64 9))), (8, (.k (.i .i64 15)))]), oC 5 n_ref06_in [(.tm 3), (.tm 4)], o 2 (.mv (.tm 5))]
def b_ref06_HasSQ : C := (.seq (.reg r_ref06_HasSQ_0) (.seq (.reg r_ref06_HasSQ_1) .ret))
abbrev c_ref06_HasSQ : CF := ⟨6, [(.tm 2)], b_ref06_HasSQ⟩
/-! polliwog/polliwogref06.HasN -/
abbrev r_ref06_HasN_0 : List COp := [o 2 (.mv (.k (.b false)))]
abbrev r_ref06_HasN_1 : List COp := [o 3 (.mv (.tm 0)), o 4 (.bslice 1 [(.i .i64 0)] 10 [(0, (.k (.i .i64 1))), (1, (.k (.i .i64 2))), (2, (.k (.i .i64 5))), (3, (.k (.i .i64 6))), (4, (.k (.i .i64 8))), (5, (.k (.i .i64 9))), (6, (.k (.i .i64 10))), (7, (.k (.i .i64 11))), (8, (.k (.i .i64 12))), (9, (.k (.i .i64 15)))]), oC 5 n_ref06_in [(.tm 3), (.tm 4)], o 2 (.mv (.tm 5))]
def b_ref06_HasN : C := (.seq (.reg r_ref06_HasN_0) (.seq (.reg r_ref06_HasN_1) .ret))
abbrev c_ref06_HasN : CF := ⟨6, [(.tm 2)], b_ref06_HasN⟩
/-! polliwog/polliwogref06.Most -/
abbrev r_ref06_Most_0 : List COp := [o 2 (.mv (.k (.i .i64 0)))]
abbrev r_ref06_Most_1 : List COp := [o 3 (.mv (.tm 0)), o 4 (.bslice 1 [(.i .i64 0)] 4 [(0, (.k (.i .i64 1))), (1, (.k (.i .i64 3))), (2, (.k (.i .i64 5))), (3, (.k (.i .i64 7)))]), oC 5 n_ref06_in [(.tm 3), (.tm 4)]]
abbrev r_ref06_Most_2 : List COp := [o 2 (.mv (.k (.i .i64 64)))]
abbrev r_ref06_Most_3 : List COp := [o 6 (.mv (.tm 0)), o 7 (.bslice 1 [(.i .i64 0)] 3 [(0, (.k (.i .i64 8))), (1, (.k (.i .i64 13))), (2, (.k (.i .i64 14)))]), oC 8 n_ref06_in [(.tm 6), (.tm 7)]]
abbrev r_ref06_Most_4 : List COp := [o 2 (.mv (.k (.i .i64 200)))]
abbrev r_ref06_Most_5 : List COp := [o 2 (.mv (.k (.i .i64 0)))]
def b_ref06_Most : C := (.seq (.reg r_ref06_Most_0) (.seq (.seq (.reg r_ref06_Most_1) (.cond (.tm 5) (.seq (.reg r_ref06_Most_2) .ret) .skip)) (.seq (.seq (.reg r_ref06_Most_3) (.cond (.tm 8) (.seq (.reg r_ref06_Most_4) .ret) .skip)) (.seq (.reg r_ref06_Most_5) .ret))))
abbrev c_ref06_Most : CF := ⟨9, [(.tm 2)], b_ref06_Most⟩
/-! (polliwog/pdu.PDU).Name -/
abbrev r_pdu_PDU_Name_0 : List COp := [o 1 (.box (.tm 0)), o 2 (.mv (.k (.s [])))]
abbrev r_pdu_PDU_Name_1 : List COp := [o 3 (.faddr 0 (.tm 1)), o 4 (.load false 1 (.tm 3)), oC 5 n_pdu_shapeOf [(.tm 4)], o 6 (.field 7 1 false (.tm 5)), o 7 (.un .not (.tm 6))]
abbrev r_pdu_PDU_Name_2 : List COp := [o 2 (.mv (.k (.s [])))]
abbrev r_pdu_PDU_Name_3 : List COp := [o 8 (.build [(.s []), (.s []), (.s []), (.s []), (.s []), (.s []), (.s []), (.s []), (.s []), (.s []), (.s []), (.s []), (.s []), (.s []), (.s []), (.s [])] [(1, 1, (.k (.s [98, 103, 110]))), (2, 1, (.k (.s [98, 103, 97, 107]))), (3, 1, (.k (.s [101, 110, 100]))), (4, 1, (.k (.s [101, 110, 100, 97, 107]))), (5, 1, (.k (.s [114, 115]))), (6, 1, (.k (.s [114, 115, 97, 107]))), (7, 1, (.k (.s [98, 103, 114, 101, 106]))), (8, 1, (.k (.s [115, 100]))), (9, 1, (.k (.s [101, 114]))), (10, 1, (.k (.s [112, 111, 108, 108]))), (11, 1, (.k (.s [115, 116, 97, 116]))), (12, 1, (.k (.s [117, 115, 116, 97, 116]))), (13, 1, (.k (.s [117, 100]))), (14, 1, (.k (.s [109, 100]))), (15, 1, (.k (.s [101, 114, 97, 107])))]), o 9 (.faddr 0 (.tm 1)), o 10 (.load false 1 (.tm 9)), o 11 (.indexA 16 1 false (.tm 8) (.tm 10)), o 2 (.mv (.tm 11))]
def b_pdu_PDU_Name : C := (.seq (.reg r_pdu_PDU_Name_0) (.seq (.seq (.reg r_pdu_PDU_Name_1) (.cond (.tm 7) (.seq (.reg r_pdu_PDU_Name_2) .ret) .skip)) (.seq (.reg r_pdu_PDU_Name_3) .ret)))
abbrev c_pdu_PDU_Name : CF := ⟨12, [(.tm 2)], b_pdu_PDU_Name⟩
/-! polliwog/trace.Record -/
abbrev r_trace_Record_0 : List COp := [o 1 (.box (.tm 0)), o 2 (.mv (.k (.s [])))]
abbrev r_trace_Record_1 : List COp := [o 5 (.faddr 0 (.tm 1)), o 6 (.load false 1 (.tm 5)), oC 7 n_strconv_Itoa [(.tm 6)], o 3 (.mv (.tm 7))]
abbrev r_trace_Record_2 : List COp := [o 8 (.faddr 1 (.tm 1)), o 9 (.load false 1 (.tm 8))]
abbrev r_trace_Record_3 : List COp := [o 11 (.bin .eql (.tm 9) (.k (.i .i64 1))), o 10 (.mv (.tm 11))]
abbrev r_trace_Record_4 : List COp := [o 12 (.mv (.tm 3)), o 13 (.bin .add (.tm 12) (.k (.s [32, 62, 32]))), o 14 (.faddr 2 (.tm 1)), o 15 (.load true 8 (.tm 14)), oC 16 n_trace_Unit [(.tm 15)], o 17 (.bin .add (.tm 13) (.tm 16)), o 2 (.mv (.tm 17))]
abbrev r_trace_Record_5 : List COp := [o 19 (.bin .eql (.tm 9) (.k (.i .i64 2))), o 18 (.mv (.tm 19))]
abbrev r_trace_Record_6 : List COp := [o 20 (.mv (.tm 3)), o 21 (.bin .add (.tm 20) (.k (.s [32, 60, 32]))), o 22 (.faddr 2 (.tm 1)), o 23 (.load true 8 (.tm 22)), oC 24 n_trace_Unit [(.tm 23)], o 25 (.bin .add (.tm 21) (.tm 24)), o 2 (.mv (.tm 25))]
abbrev r_trace_Record_7 : List COp := [o 27 (.bin .eql (.tm 9) (.k (.i .i64 3))), o 26 (.mv (.tm 27))]
abbrev r_trace_Record_8 : List COp := [o 28 (.mv (.tm 3)), o 29 (.bin .add (.tm 28) (.k (.s [32, 35]))), o 2 (.mv (.tm 29))]
abbrev r_trace_Record_9 : List COp := [o 31 (.bin .eql (.tm 9) (.k (.i .i64 4))), o 30 (.mv (.tm 31))]
abbrev r_trace_Record_10 : List COp := [o 32 (.mv (.tm 3)), o 33 (.bin .add (.tm 32) (.k (.s [32, 120]))), o 2 (.mv (.tm 33))]
abbrev r_trace_Record_11 : List COp := [o 35 (.bin .eql (.tm 9) (.k (.i .i64 5))), o 34 (.mv (.tm 35))]
abbrev r_trace_Record_12 : List COp := [o 36 (.mv (.tm 3)), o 37 (.bin .add (.tm 36) (.k (.s [32, 58, 32]))), o 38 (.faddr 10 (.tm 1)), o 39 (.load true 5 (.tm 38)), oC 40 n_event_Signal_Text [(.tm 39)], o 41 (.bin .add (.tm 37) (.tm 40)), o 2 (.mv (.tm 41))]
abbrev r_trace_Record_13 : List COp := [o 43 (.bin .eql (.tm 9) (.k (.i .i64 6))), o 42 (.mv (.tm 43))]
abbrev r_trace_Record_14 : List COp := [o 44 (.faddr 15 (.tm 1)), o 45 (.faddr 1 (.tm 44)), o 46 (.load false 1 (.tm 45)), oC 47 n_event_Hex [(.tm 46)], o 4 (.mv (.tm 47))]
abbrev r_trace_Record_15 : List COp := [o 48 (.faddr 15 (.tm 1)), o 49 (.faddr 0 (.tm 48)), o 50 (.load false 1 (.tm 49)), o 51 (.bin .eql (.tm 50) (.k (.i .i64 10)))]
abbrev r_trace_Record_16 : List COp := [o 52 (.faddr 15 (.tm 1)), o 53 (.faddr 2 (.tm 52)), o 54 (.load false 1 (.tm 53)), oC 55 n_strconv_Itoa [(.tm 54)], o 4 (.mv (.tm 55))]
abbrev r_trace_Record_17 : List COp := [o 56 (.mv (.tm 3)), o 57 (.bin .add (.tm 56) (.k (.s [32, 63, 32]))), o 58 (.faddr 15 (.tm 1)), o 59 (.faddr 0 (.tm 58)), o 60 (.load false 1 (.tm 59)), oC 61 n_strconv_Itoa [(.tm 60)], o 62 (.bin .add (.tm 57) (.tm 61)), o 63 (.bin .add (.tm 62) (.k (.s [32]))), o 64 (.mv (.tm 4)), o 65 (.bin .add (.tm 63) (.tm 64)), o 2 (.mv (.tm 65))]
abbrev r_trace_Record_18 : List COp := [o 2 (.mv (.k (.s [])))]
def b_trace_Record : C := (.seq (.reg r_trace_Record_0) (.seq (.reg r_trace_Record_1) (.seq (.seq (.reg r_trace_Record_2) (.blk 0 (.seq (.reg r_trace_Record_3) (.cond (.tm 10) (.seq (.reg r_trace_Record_4) .ret) (.seq (.reg r_trace_Record_5) (.cond (.tm 18) (.seq (.reg r_trace_Record_6) .ret) (.seq (.reg r_trace_Record_7) (.cond (.tm 26) (.seq (.reg r_trace_Record_8) .ret) (.seq (.reg r_trace_Record_9) (.cond (.tm 30) (.seq (.reg r_trace_Record_10) .ret) (.seq (.reg r_trace_Record_11) (.cond (.tm 34) (.seq (.reg r_trace_Record_12) .ret) (.seq (.reg r_trace_Record_13) (.cond (.tm 42) (.seq (.reg r_trace_Record_14) (.seq (.seq (.reg r_trace_Record_15) (.cond (.tm 51) (.reg r_trace_Record_16) .skip)) (.seq (.reg r_trace_Record_17) .ret))) .skip)))))))))))))) (.seq (.reg r_trace_Record_18) .ret))))
abbrev c_trace_Record : CF := ⟨66, [(.tm 2)], b_trace_Record⟩
/-! polliwog/trace.kind -/
abbrev r_trace_kind_0 : List COp := [o 2 (.mv (.k (.i .i64 0)))]
abbrev r_trace_kind_1 : List COp := [o 3 (.mv (.k (.i .i64 1)))]
abbrev r_trace_kind_2 : List COp := [o 4 (.mv (.tm 3)), o 5 (.bin .leq (.tm 4) (.k (.i .i64 15)))]
abbrev r_trace_kind_3 : List COp := [o 8 (.mv (.tm 3)), o 9 (.build [(.i .i64 0), (.i .i64 0), (.i .u32 0), (.i .u32 0), (.i .u32 0), (.sl none 0 (some 0) 0), (.b false), (.s [])] [(0, 1, (.tm 8))]), oC 10 n_pdu_PDU_Name [(.tm 9)], o 11 (.mv (.tm 0)), o 12 (.bin .eql (.tm 10) (.tm 11))]
abbrev r_trace_kind_4 : List COp := [o 13 (.mv (.tm 3)), o 2 (.mv (.tm 13))]
abbrev r_trace_kind_5 : List COp := [o 6 (.mv (.tm 3)), o 7 (.bin .add (.tm 6) (.k (.i .i64 1))), o 3 (.mv (.tm 7))]
def l_trace_kind_0 : C := (.seq (.seq (.reg r_trace_kind_2) (.cond (.tm 5) .skip (.exit 0))) (.seq (.blk 1 (.seq (.reg r_trace_kind_3) (.cond (.tm 12) (.seq (.reg r_trace_kind_4) .ret) .skip))) (.reg r_trace_kind_5)))
abbrev r_trace_kind_6 : List COp := [o 2 (.mv (.k (.i .i64 0)))]
def b_trace_kind : C := (.seq (.reg r_trace_kind_0) (.seq (.seq (.reg r_trace_kind_1) (.blk 0 (.loop l_trace_kind_0))) (.seq (.reg r_trace_kind_6) .ret)))
abbrev c_trace_kind : CF := ⟨14, [(.tm 2)], b_trace_kind⟩
/-! polliwog/trace.has -/
abbrev r_trace_has_0 : List COp := [o 2 (.mv (.k (.s [])))]
abbrev r_trace_has_1 : List COp := [o 3 (.mv (.tm 0))]
abbrev r_trace_has_2 : List COp := [o 5 (.bin .eql (.tm 3) (.k (.i .i64 1))), o 4 (.mv (.tm 5))]
abbrev r_trace_has_3 : List COp := [o 6 (.bin .eql (.tm 3) (.k (.i .i64 5))), o 4 (.mv (.tm 6))]
abbrev r_trace_has_4 : List COp := [o 2 (.mv (.k (.s [115, 110, 100])))]
abbrev r_trace_has_5 : List COp := [o 8 (.bin .eql (.tm 3) (.k (.i .i64 2))), o 7 (.mv (.tm 8))]
abbrev r_trace_has_6 : List COp := [o 9 (.bin .eql (.tm 3) (.k (.i .i64 6))), o 7 (.mv (.tm 9))]
abbrev r_trace_has_7 : List COp := [o 10 (.bin .eql (.tm 3) (.k (.i .i64 9))), o 7 (.mv (.tm 10))]
abbrev r_trace_has_8 : List COp := [o 11 (.bin .eql (.tm 3) (.k (.i .i64 15))), o 7 (.mv (.tm 11))]
abbrev r_trace_has_9 : List COp := [o 2 (.mv (.k (.s [115, 110])))]
abbrev r_trace_has_10 : List COp := [o 13 (.bin .eql (.tm 3) (.k (.i .i64 7))), o 12 (.mv (.tm 13))]
abbrev r_trace_has_11 : List COp := [o 14 (.bin .eql (.tm 3) (.k (.i .i64 3))), o 12 (.mv (.tm 14))]
abbrev r_trace_has_12 : List COp := [o 2 (.mv (.k (.s [115, 100])))]
abbrev r_trace_has_13 : List COp := [o 16 (.bin .eql (.tm 3) (.k (.i .i64 4))), o 15 (.mv (.tm 16))]
abbrev r_trace_has_14 : List COp := [o 2 (.mv (.k (.s [115])))]
abbrev r_trace_has_15 : List COp := [o 18 (.bin .eql (.tm 3) (.k (.i .i64 8))), o 17 (.mv (.tm 18))]
abbrev r_trace_has_16 : List COp := [o 2 (.mv (.k (.s [110, 100])))]
abbrev r_trace_has_17 : List COp := [o 20 (.bin .eql (.tm 3) (.k (.i .i64 10))), o 19 (.mv (.tm 20))]
abbrev r_trace_has_18 : List COp := [o 2 (.mv (.k (.s [110, 112])))]
abbrev r_trace_has_19 : List COp := [o 22 (.bin .eql (.tm 3) (.k (.i .i64 11))), o 21 (.mv (.tm 22))]
abbrev r_trace_has_20 : List COp := [o 2 (.mv (.k (.s [110, 112, 109, 108])))]
abbrev r_trace_has_21 : List COp := [o 24 (.bin .eql (.tm 3) (.k (.i .i64 12))), o 23 (.mv (.tm 24))]
abbrev r_trace_has_22 : List COp := [o 2 (.mv (.k (.s [110, 109, 108])))]
abbrev r_trace_has_23 : List COp := [o 26 (.bin .eql (.tm 3) (.k (.i .i64 13))), o 25 (.mv (.tm 26))]
abbrev r_trace_has_24 : List COp := [o 27 (.bin .eql (.tm 3) (.k (.i .i64 14))), o 25 (.mv (.tm 27))]
abbrev r_trace_has_25 : List COp := [o 2 (.mv (.k (.s [100])))]
abbrev r_trace_has_26 : List COp := [o 2 (.mv (.k (.s [])))]
def b_trace_has : C := (.seq (.reg r_trace_has_0) (.seq (.seq (.reg r_trace_has_1) (.blk 0 (.seq (.seq (.reg r_trace_has_2) (.cond (.tm 4) .skip (.reg r_trace_has_3))) (.cond (.tm 4) (.seq (.reg r_trace_has_4) .ret) (.seq (.seq (.reg r_trace_has_5) (.cond (.tm 7) .skip (.seq (.reg r_trace_has_6) (.cond (.tm 7) .skip (.seq (.reg r_trace_has_7) (.cond (.tm 7) .skip (.reg r_trace_has_8))))))) (.cond (.tm 7) (.seq (.reg r_trace_has_9) .ret) (.seq (.seq (.reg r_trace_has_10) (.cond (.tm 12) .skip (.reg r_trace_has_11))) (.cond (.tm 12) (.seq (.reg r_trace_has_12) .ret) (.seq (.reg r_trace_has_13) (.cond (.tm 15) (.seq (.reg r_trace_has_14) .ret) (.seq (.reg r_trace_has_15) (.cond (.tm 17) (.seq (.reg r_trace_has_16) .ret) (.seq (.reg r_trace_has_17) (.cond (.tm 19) (.seq (.reg r_trace_has_18) .ret) (.seq (.reg r_trace_has_19) (.cond (.tm 21) (.seq (.reg r_trace_has_20) .ret) (.seq (.reg r_trace_has_21) (.cond (.tm 23) (.seq (.reg r_trace_has_22) .ret) (.seq (.seq (.reg r_trace_has_23) (.cond (.tm 25) .skip (.reg r_trace_has_24))) (.cond (.tm 25) (.seq (.reg r_trace_has_25) .ret) .skip)))))))))))))))))))) (.seq (.reg r_trace_has_26) .ret)))
abbrev c_trace_has : CF := ⟨28, [(.tm 2)], b_trace_has⟩
/-! polliwog/trace.take -/
abbrev r_trace_take_0 : List COp := [o 6 (.mv (.k (.b false)))]
abbrev r_trace_take_1 : List COp := [o 7 (.mv (.k (.i .i64 0))), o 8 (.mv (.k (.b false)))]
abbrev r_trace_take_2 : List COp := [o 13 (.mv (.tm 1))]
abbrev r_trace_take_3 : List COp := [o 33 (.bin .eql (.tm 13) (.k (.i .i32 115))), o 32 (.mv (.tm 33))]
abbrev r_trace_take_4 : List COp := [o 35 (.mv (.tm 2)), oC 36 n_trace_number [(.tm 35), (.k (.s [115, 113]))], o 34 (.mv (.tm 36)), o 37 (.extract (.tm 34) 0), o 38 (.extract (.tm 34) 1), o 7 (.mv (.tm 37)), o 8 (.mv (.tm 38))]
abbrev r_trace_take_5 : List COp := [o 39 (.mv (.tm 0)), o 40 (.mv (.tm 7)), o 41 (.nilck (.tm 39)), o 42 (.faddr 1 (.tm 41)), oN (.store 1 (.tm 42) (.tm 40))]
abbrev r_trace_take_6 : List COp := [o 44 (.bin .eql (.tm 13) (.k (.i .i32 110))), o 43 (.mv (.tm 44))]
abbrev r_trace_take_7 : List COp := [o 46 (.mv (.tm 2)), oC 47 n_trace_number [(.tm 46), (.k (.s [110]))], o 45 (.mv (.tm 47)), o 48 (.extract (.tm 45) 0), o 49 (.extract (.tm 45) 1), o 7 (.mv (.tm 48)), o 8 (.mv (.tm 49))]
abbrev r_trace_take_8 : List COp := [o 50 (.mv (.tm 0)), o 51 (.mv (.tm 7)), oC 52 n_seq_Of [(.tm 51)], o 53 (.nilck (.tm 50)), o 54 (.faddr 2 (.tm 53)), oN (.store 1 (.tm 54) (.tm 52))]
abbrev r_trace_take_9 : List COp := [o 56 (.bin .eql (.tm 13) (.k (.i .i32 112))), o 55 (.mv (.tm 56))]
abbrev r_trace_take_10 : List COp := [o 58 (.mv (.tm 2)), oC 59 n_trace_number [(.tm 58), (.k (.s [112, 115]))], o 57 (.mv (.tm 59)), o 60 (.extract (.tm 57) 0), o 61 (.extract (.tm 57) 1), o 7 (.mv (.tm 60)), o 8 (.mv (.tm 61))]
abbrev r_trace_take_11 : List COp := [o 62 (.mv (.tm 0)), o 63 (.mv (.tm 7)), oC 64 n_seq_Of [(.tm 63)], o 65 (.nilck (.tm 62)), o 66 (.faddr 3 (.tm 65)), oN (.store 1 (.tm 66) (.tm 64))]
abbrev r_trace_take_12 : List COp := [o 68 (.bin .eql (.tm 13) (.k (.i .i32 109))), o 67 (.mv (.tm 68))]
abbrev r_trace_take_13 : List COp := [o 70 (.mv (.tm 2)), oC 71 n_trace_number [(.tm 70), (.k (.s [109, 114]))], o 69 (.mv (.tm 71)), o 72 (.extract (.tm 69) 0), o 73 (.extract (.tm 69) 1), o 7 (.mv (.tm 72)), o 8 (.mv (.tm 73))]
abbrev r_trace_take_14 : List COp := [o 74 (.mv (.tm 0)), o 75 (.mv (.tm 7)), oC 76 n_seq_Of [(.tm 75)], o 77 (.nilck (.tm 74)), o 78 (.faddr 4 (.tm 77)), oN (.store 1 (.tm 78) (.tm 76))]
abbrev r_trace_take_15 : List COp := [o 80 (.bin .eql (.tm 13) (.k (.i .i32 108))), o 79 (.mv (.tm 80))]
abbrev r_trace_take_16 : List COp := [o 82 (.mv (.tm 0)), o 83 (.mv (.tm 2)), oC 84 n_trace_nums [(.tm 83)], o 81 (.mv (.tm 84)), o 85 (.extract (.tm 81) 0), o 86 (.extract (.tm 81) 1), o 87 (.nilck (.tm 82)), o 88 (.faddr 5 (.tm 87)), oN (.store 1 (.tm 88) (.tm 85)), o 8 (.mv (.tm 86))]
abbrev r_trace_take_17 : List COp := [o 15 (.mv (.tm 2)), oC 16 n_strings_CutPrefix [(.tm 15), (.k (.s [100]))], o 14 (.mv (.tm 16)), o 17 (.extract (.tm 14) 0), o 18 (.extract (.tm 14) 1), o 9 (.mv (.tm 17)), o 10 (.mv (.tm 18))]
abbrev r_trace_take_18 : List COp := [o 20 (.mv (.tm 9)), oC 21 n_event_Unhex [(.tm 20)], o 19 (.mv (.tm 21)), o 22 (.extract (.tm 19) 0), o 23 (.extract (.tm 19) 1), o 11 (.mv (.tm 22)), o 12 (.mv (.tm 23))]
abbrev r_trace_take_19 : List COp := [o 24 (.mv (.tm 0)), o 25 (.mv (.tm 11)), o 26 (.mv (.tm 10)), o 27 (.mv (.tm 26)), ⟨(some 28), (.op (.mv (.tm 12))), (some (27, true))⟩, o 29 (.pick (.tm 27) (.tm 28) (.k (.b false))), o 30 (.nilck (.tm 24)), o 31 (.faddr 7 (.tm 30)), oN (.store 1 (.tm 31) (.tm 25)), o 8 (.mv (.tm 29))]
abbrev r_trace_take_20 : List COp := [o 89 (.mv (.tm 8)), o 6 (.mv (.tm 89))]
def b_trace_take : C := (.seq (.reg r_trace_take_0) (.seq (.reg r_trace_take_1) (.seq (.seq (.reg r_trace_take_2) (.blk 0 (.seq (.reg r_trace_take_3) (.cond (.tm 32) (.seq (.reg r_trace_take_4) (.reg r_trace_take_5)) (.seq (.reg r_trace_take_6) (.cond (.tm 43) (.seq (.reg r_trace_take_7) (.reg r_trace_take_8)) (.seq (.reg r_trace_take_9) (.cond (.tm 55) (.seq (.reg r_trace_take_10) (.reg r_trace_take_11)) (.seq (.reg r_trace_take_12) (.cond (.tm 67) (.seq (.reg r_trace_take_13) (.reg r_trace_take_14)) (.seq (.reg r_trace_take_15) (.cond (.tm 79) (.reg r_trace_take_16) (.seq (.reg r_trace_take_17) (.seq (.reg r_trace_take_18) (.reg r_trace_take_19))))))))))))))) (.seq (.reg r_trace_take_20) .ret))))
abbrev c_trace_take : CF := ⟨90, [(.tm 6)], b_trace_take⟩
/-! polliwog/trace.list -/
abbrev r_trace_list_0 : List COp := [o 2 (.mv (.k (.s [])))]
abbrev r_trace_list_1 : List COp := [o 6 (.mv (.tm 0)), o 7 (.len .slice (.tm 6)), o 8 (.bin .eql (.tm 7) (.k (.i .i64 0)))]
abbrev r_trace_list_2 : List COp := [o 2 (.mv (.k (.s [45])))]
abbrev r_trace_list_3 : List COp := [o 3 (.mv (.k (.sl none 0 (some 0) 0)))]
abbrev r_trace_list_4 : List COp := [o 9 (.mv (.tm 0)), o 10 (.len .slice (.tm 9)), o 11 (.mv (.k (.i .i64 0)))]
abbrev r_trace_list_5 : List COp := [o 12 (.bin .lss (.tm 11) (.tm 10))]
abbrev r_trace_list_6 : List COp := [o 13 (.iaddrL 1 (.tm 9) (.tm 11)), o 14 (.load false 1 (.tm 13)), o 5 (.mv (.tm 14))]
abbrev r_trace_list_7 : List COp := [o 15 (.mv (.tm 3)), o 16 (.mv (.tm 5)), o 17 (.convI .i64 (.tm 16)), oC 18 n_strconv_Itoa [(.tm 17)], o 19 (.bslice 1 [(.s [])] 1 [(0, (.tm 18))]), o 20 (.append false 1 16 (.tm 15) (.tm 19)), o 3 (.mv (.tm 20))]
abbrev r_trace_list_8 : List COp := [o 21 (.bin .add (.tm 11) (.k (.i .i64 1))), o 11 (.mv (.tm 21))]
def l_trace_list_0 : C := (.seq (.reg r_trace_list_5) (.seq (.cond (.tm 12) .skip (.exit 0)) (.seq (.blk 1 (.seq (.reg r_trace_list_6) (.reg r_trace_list_7))) (.reg r_trace_list_8))))
abbrev r_trace_list_9 : List COp := [o 22 (.mv (.tm 3)), oC 23 n_strings_Join [(.tm 22), (.k (.s [44]))], o 2 (.mv (.tm 23))]
def b_trace_list : C := (.seq (.reg r_trace_list_0) (.seq (.seq (.reg r_trace_list_1) (.cond (.tm 8) (.seq (.reg r_trace_list_2) .ret) .skip)) (.seq (.reg r_trace_list_3) (.seq (.seq (.reg r_trace_list_4) (.blk 0 (.loop l_trace_list_0))) (.seq (.reg r_trace_list_9) .ret)))))
abbrev c_trace_list : CF := ⟨24, [(.tm 2)], b_trace_list⟩
/-! polliwog/event.Hex -/
abbrev r_event_Hex_0 : List COp := [o 2 (.mv (.k (.s [])))]
abbrev r_event_Hex_1 : List COp := [o 5 (.mv (.tm 0)), o 6 (.bin .eql (.tm 5) (.k (.s [])))]
abbrev r_event_Hex_2 : List COp := [o 2 (.mv (.k (.s [45])))]
abbrev r_event_Hex_3 : List COp := [o 3 (.alloc [(.p none), (.sl none 0 (some 0) 0)] tyB)]
abbrev r_event_Hex_4 : List COp := [o 7 (.mv (.tm 0)), o 8 (.len .str (.tm 7)), o 9 (.mv (.k (.i .i64 0)))]
abbrev r_event_Hex_5 : List COp := [o 10 (.bin .lss (.tm 9) (.tm 8))]
abbrev r_event_Hex_6 : List COp := [o 11 (.mv (.tm 9)), o 4 (.mv (.tm 11))]
abbrev r_event_Hex_7 : List COp := [o 12 (.mv (.tm 0)), o 13 (.mv (.tm 4)), o 14 (.indexS (.tm 12) (.tm 13)), o 15 (.bin .shr (.tm 14) (.k (.i .u64 4))), o 16 (.indexS (.k (.s [48, 49, 50, 51, 52, 53, 54, 55, 56, 57, 97, 98, 99, 100, 101, 102])) (.tm 15)), oC 17 n_strings_Builder_WriteByte [(.tm 3), (.tm 16)]]
abbrev r_event_Hex_8 : List COp := [o 18 (.mv (.tm 0)), o 19 (.mv (.tm 4)), o 20 (.indexS (.tm 18) (.tm 19)), o 21 (.bin .and (.tm 20) (.k (.i .u8 15))), o 22 (.indexS (.k (.s [48, 49, 50, 51, 52, 53, 54, 55, 56, 57, 97, 98, 99, 100, 101, 102])) (.tm 21)), oC 23 n_strings_Builder_WriteByte [(.tm 3), (.tm 22)]]
abbrev r_event_Hex_9 : List COp := [o 24 (.bin .add (.tm 9) (.k (.i .i64 1))), o 9 (.mv (.tm 24))]
def l_event_Hex_0 : C := (.seq (.reg r_event_Hex_5) (.seq (.cond (.tm 10) .skip (.exit 0)) (.seq (.blk 1 (.seq (.reg r_event_Hex_6) (.seq (.reg r_event_Hex_7) (.reg r_event_Hex_8)))) (.reg r_event_Hex_9))))
abbrev r_event_Hex_10 : List COp := [oC 25 n_strings_Builder_String [(.tm 3)], o 2 (.mv (.tm 25))]
def b_event_Hex : C := (.seq (.reg r_event_Hex_0) (.seq (.seq (.reg r_event_Hex_1) (.cond (.tm 6) (.seq (.reg r_event_Hex_2) .ret) .skip)) (.seq (.reg r_event_Hex_3) (.seq (.seq (.reg r_event_Hex_4) (.blk 0 (.loop l_event_Hex_0))) (.seq (.reg r_event_Hex_10) .ret)))))
abbrev c_event_Hex : CF := ⟨26, [(.tm 2)], b_event_Hex⟩
/-! polliwog/pdu.shapeOf -/
abbrev r_pdu_shapeOf_0 : List COp := [o 2 (.alloc [(.i .i64 0), (.b false), (.b false), (.i .i64 0), (.b false), (.b false), (.b false), (.b false)] 65)]
abbrev r_pdu_shapeOf_1 : List COp := [o 3 (.mv (.tm 0))]
abbrev r_pdu_shapeOf_2 : List COp := [o 5 (.bin .eql (.tm 3) (.k (.i .i64 1))), o 4 (.mv (.tm 5))]
abbrev r_pdu_shapeOf_3 : List COp := [o 6 (.bin .eql (.tm 3) (.k (.i .i64 5))), o 4 (.mv (.tm 6))]
abbrev r_pdu_shapeOf_4 : List COp := [o 7 (.build [(.i .i64 0), (.b false), (.b false), (.i .i64 0), (.b false), (.b false), (.b false), (.b false)] [(0, 1, (.k (.i .i64 64))), (1, 1, (.k (.b true))), (2, 1, (.k (.b true))), (7, 1, (.k (.b true)))]), oN (.store 8 (.tm 2) (.tm 7))]
abbrev r_pdu_shapeOf_5 : List COp := [o 9 (.bin .eql (.tm 3) (.k (.i .i64 2))), o 8 (.mv (.tm 9))]
abbrev r_pdu_shapeOf_6 : List COp := [o 10 (.bin .eql (.tm 3) (.k (.i .i64 6))), o 8 (.mv (.tm 10))]
abbrev r_pdu_shapeOf_7 : List COp := [o 11 (.bin .eql (.tm 3) (.k (.i .i64 9))), o 8 (.mv (.tm 11))]
abbrev r_pdu_shapeOf_8 : List COp := [o 12 (.bin .eql (.tm 3) (.k (.i .i64 15))), o 8 (.mv (.tm 12))]
abbrev r_pdu_shapeOf_9 : List COp := [o 13 (.build [(.i .i64 0), (.b false), (.b false), (.i .i64 0), (.b false), (.b false), (.b false), (.b false)] [(1, 1, (.k (.b true))), (2, 1, (.k (.b true))), (7, 1, (.k (.b true)))]), oN (.store 8 (.tm 2) (.tm 13))]
abbrev r_pdu_shapeOf_10 : List COp := [o 15 (.bin .eql (.tm 3) (.k (.i .i64 7))), o 14 (.mv (.tm 15))]
abbrev r_pdu_shapeOf_11 : List COp := [o 16 (.build [(.i .i64 0), (.b false), (.b false), (.i .i64 0), (.b false), (.b false), (.b false), (.b false)] [(0, 1, (.k (.i .i64 64))), (1, 1, (.k (.b true))), (7, 1, (.k (.b true)))]), oN (.store 8 (.tm 2) (.tm 16))]
abbrev r_pdu_shapeOf_12 : List COp := [o 18 (.bin .eql (.tm 3) (.k (.i .i64 3))), o 17 (.mv (.tm 18))]
abbrev r_pdu_shapeOf_13 : List COp := [o 19 (.build [(.i .i64 0), (.b false), (.b false), (.i .i64 0), (.b false), (.b false), (.b false), (.b false)] [(0, 1, (.k (.i .i64 64))), (1, 1, (.k (.b true))), (6, 1, (.k (.b true))), (7, 1, (.k (.b true)))]), oN (.store 8 (.tm 2) (.tm 19))]
abbrev r_pdu_shapeOf_14 : List COp := [o 21 (.bin .eql (.tm 3) (.k (.i .i64 4))), o 20 (.mv (.tm 21))]
abbrev r_pdu_shapeOf_15 : List COp := [o 22 (.build [(.i .i64 0), (.b false), (.b false), (.i .i64 0), (.b false), (.b false), (.b false), (.b false)] [(1, 1, (.k (.b true))), (7, 1, (.k (.b true)))]), oN (.store 8 (.tm 2) (.tm 22))]
abbrev r_pdu_shapeOf_16 : List COp := [o 24 (.bin .eql (.tm 3) (.k (.i .i64 8))), o 23 (.mv (.tm 24))]
abbrev r_pdu_shapeOf_17 : List COp := [o 25 (.build [(.i .i64 0), (.b false), (.b false), (.i .i64 0), (.b false), (.b false), (.b false), (.b false)] [(0, 1, (.k (.i .i64 200))), (2, 1, (.k (.b true))), (7, 1, (.k (.b true)))]), oN (.store 8 (.tm 2) (.tm 25))]
abbrev r_pdu_shapeOf_18 : List COp := [o 27 (.bin .eql (.tm 3) (.k (.i .i64 10))), o 26 (.mv (.tm 27))]
abbrev r_pdu_shapeOf_19 : List COp := [o 28 (.build [(.i .i64 0), (.b false), (.b false), (.i .i64 0), (.b false), (.b false), (.b false), (.b false)] [(2, 1, (.k (.b true))), (4, 1, (.k (.b true))), (7, 1, (.k (.b true)))]), oN (.store 8 (.tm 2) (.tm 28))]
abbrev r_pdu_shapeOf_20 : List COp := [o 30 (.bin .eql (.tm 3) (.k (.i .i64 11))), o 29 (.mv (.tm 30))]
abbrev r_pdu_shapeOf_21 : List COp := [o 31 (.build [(.i .i64 0), (.b false), (.b false), (.i .i64 0), (.b false), (.b false), (.b false), (.b false)] [(2, 1, (.k (.b true))), (3, 1, (.k (.i .i64 (-1)))), (4, 1, (.k (.b true))), (5, 1, (.k (.b true))), (7, 1, (.k (.b true)))]), oN (.store 8 (.tm 2) (.tm 31))]
abbrev r_pdu_shapeOf_22 : List COp := [o 33 (.bin .eql (.tm 3) (.k (.i .i64 12))), o 32 (.mv (.tm 33))]
abbrev r_pdu_shapeOf_23 : List COp := [o 34 (.build [(.i .i64 0), (.b false), (.b false), (.i .i64 0), (.b false), (.b false), (.b false), (.b false)] [(2, 1, (.k (.b true))), (3, 1, (.k (.i .i64 2))), (5, 1, (.k (.b true))), (7, 1, (.k (.b true)))]), oN (.store 8 (.tm 2) (.tm 34))]
abbrev r_pdu_shapeOf_24 : List COp := [o 36 (.bin .eql (.tm 3) (.k (.i .i64 13))), o 35 (.mv (.tm 36))]
abbrev r_pdu_shapeOf_25 : List COp := [o 37 (.bin .eql (.tm 3) (.k (.i .i64 14))), o 35 (.mv (.tm 37))]
abbrev r_pdu_shapeOf_26 : List COp := [o 38 (.build [(.i .i64 0), (.b false), (.b false), (.i .i64 0), (.b false), (.b false), (.b false), (.b false)] [(0, 1, (.k (.i .i64 200))), (7, 1, (.k (.b true)))]), oN (.store 8 (.tm 2) (.tm 38))]
abbrev r_pdu_shapeOf_27 : List COp := [o 39 (.build [(.i .i64 0), (.b false), (.b false), (.i .i64 0), (.b false), (.b false), (.b false), (.b false)] []), oN (.store 8 (.tm 2) (.tm 39))]
def b_pdu_shapeOf : C := (.seq (.reg r_pdu_shapeOf_0) (.seq (.seq (.reg r_pdu_shapeOf_1) (.blk 0 (.seq (.seq (.reg r_pdu_shapeOf_2) (.cond (.tm 4) .skip (.reg r_pdu_shapeOf_3))) (.cond (.tm 4) (.seq (.reg r_pdu_shapeOf_4) .ret) (.seq (.seq (.reg r_pdu_shapeOf_5) (.cond (.tm 8) .skip (.seq (.reg r_pdu_shapeOf_6) (.cond (.tm 8) .skip (.seq (.reg r_pdu_shapeOf_7) (.cond (.tm 8) .skip (.reg r_pdu_shapeOf_8))))))) (.cond (.tm 8) (.seq (.reg r_pdu_shapeOf_9) .ret) (.seq (.reg r_pdu_shapeOf_10) (.cond (.tm 14) (.seq (.reg r_pdu_shapeOf_11) .ret) (.seq (.reg r_pdu_shapeOf_12) (.cond (.tm 17) (.seq (.reg r_pdu_shapeOf_13) .ret) (.seq (.reg r_pdu_shapeOf_14) (.cond (.tm 20) (.seq (.reg r_pdu_shapeOf_15) .ret) (.seq (.reg r_pdu_shapeOf_16) (.cond (.tm 23) (.seq (.reg r_pdu_shapeOf_17) .ret) (.seq (.reg r_pdu_shapeOf_18) (.cond (.tm 26) (.seq (.reg r_pdu_shapeOf_19) .ret) (.seq (.reg r_pdu_shapeOf_20) (.cond (.tm 29) (.seq (.reg r_pdu_shapeOf_21) .ret) (.seq (.reg r_pdu_shapeOf_22) (.cond (.tm 32) (.seq (.reg r_pdu_shapeOf_23) .ret) (.seq (.seq (.reg r_pdu_shapeOf_24) (.cond (.tm 35) .skip (.reg r_pdu_shapeOf_25))) (.cond (.tm 35) (.seq (.reg r_pdu_shapeOf_26) .ret) .skip)))))))))))))))))))))) (.seq (.reg r_pdu_shapeOf_27) .ret)))
abbrev c_pdu_shapeOf : CF := ⟨40, [(.cell 2 true 8)], b_pdu_shapeOf⟩
/-! polliwog/pdu.low -/
abbrev r_pdu_low_0 : List COp := [o 2 (.mv (.k (.b false)))]
abbrev r_pdu_low_1 : List COp := [o 3 (.mv (.tm 0)), o 4 (.mv (.tm 0)), oC 5 n_seq_Num_Low [(.tm 4)], o 6 (.bin .eql (.tm 3) (.tm 5)), o 2 (.mv (.tm 6))]
def b_pdu_low : C := (.seq (.reg r_pdu_low_0) (.seq (.reg r_pdu_low_1) .ret))
abbrev c_pdu_low : CF := ⟨7, [(.tm 2)], b_pdu_low⟩
/-! slices.ContainsFunc[[]polliwog/seq.Num,polliwog/seq.Num] -/
abbrev r_slices_ContainsFunc_Lseq_Num_seq_Num_0 : List COp := [o 4 (.mv (.k (.b false)))]
abbrev r_slices_ContainsFunc_Lseq_Num_seq_Num_1 : List COp := [o 5 (.mv (.tm 0)), o 6 (.mv (.tm 1)), oC 7 n_slices_IndexFunc_Lseq_Num_seq_Num [(.tm 5), (.tm 6)], o 8 (.bin .geq (.tm 7) (.k (.i .i64 0))), o 4 (.mv (.tm 8))]
def b_slices_ContainsFunc_Lseq_Num_seq_Num : C := (.seq (.reg r_slices_ContainsFunc_Lseq_Num_seq_Num_0) (.seq (.reg r_slices_ContainsFunc_Lseq_Num_seq_Num_1) .ret))
abbrev c_slices_ContainsFunc_Lseq_Num_seq_Num : CF := ⟨9, [(.tm 4)], b_slices_ContainsFunc_Lseq_Num_seq_Num⟩
/-! (polliwog/pdu.PDU).Check$1 -/
abbrev r_pdu_PDU_Check_1_0 : List COp := [o 2 (.mv (.k (.b false)))]
abbrev r_pdu_PDU_Check_1_1 : List COp := [o 3 (.mv (.tm 0)), oC 4 n_pdu_low [(.tm 3)], o 5 (.un .not (.tm 4)), o 2 (.mv (.tm 5))]
def b_pdu_PDU_Check_1 : C := (.seq (.reg r_pdu_PDU_Check_1_0) (.seq (.reg r_pdu_PDU_Check_1_1) .ret))
abbrev c_pdu_PDU_Check_1 : CF := ⟨6, [(.tm 2)], b_pdu_PDU_Check_1⟩
/-! polliwog/polliwoglaw06.Few$1 -/
abbrev r_law06_Few_1_0 : List COp := [o 2 (.mv (.k (.i .i64 0)))]
abbrev r_law06_Few_1_1 : List COp := [o 3 (.mv (.tm 0)), o 4 (.mxmn false [(.tm 3), (.k (.i .i64 4294967295))]), o 5 (.mxmn true [(.k (.i .i64 0)), (.tm 4)]), o 2 (.mv (.tm 5))]
def b_law06_Few_1 : C := (.seq (.reg r_law06_Few_1_0) (.seq (.reg r_law06_Few_1_1) .ret))
abbrev c_law06_Few_1 : CF := ⟨6, [(.tm 2)], b_law06_Few_1⟩
/-! polliwog/polliwogref06.low -/
abbrev r_ref06_low_0 : List COp := [o 2 (.mv (.k (.b false)))]
abbrev r_ref06_low_1 : List COp := [o 3 (.mv (.tm 0)), o 4 (.bin .geq (.tm 3) (.k (.i .i64 0))), o 5 (.mv (.tm 4)), ⟨(some 6), (.op (.mv (.tm 0))), (some (5, true))⟩, ⟨(some 7), (.op (.bin .lss (.tm 6) (.k (.i .i64 16777216)))), (some (5, true))⟩, o 8 (.pick (.tm 5) (.tm 7) (.k (.b false))), o 2 (.mv (.tm 8))]
def b_ref06_low : C := (.seq (.reg r_ref06_low_0) (.seq (.reg r_ref06_low_1) .ret))
abbrev c_ref06_low : CF := ⟨9, [(.tm 2)], b_ref06_low⟩
/-! polliwog/polliwogref06.in -/
abbrev r_ref06_in_0 : List COp := [o 4 (.mv (.k (.b false)))]
abbrev r_ref06_in_1 : List COp := [o 7 (.mv (.tm 1)), o 8 (.len .slice (.tm 7)), o 9 (.mv (.k (.i .i64 0)))]
abbrev r_ref06_in_2 : List COp := [o 10 (.bin .lss (.tm 9) (.tm 8))]
abbrev r_ref06_in_3 : List COp := [o 11 (.iaddrL 1 (.tm 7) (.tm 9)), o 12 (.load false 1 (.tm 11)), o 6 (.mv (.tm 12))]
abbrev r_ref06_in_4 : List COp := [o 13 (.mv (.tm 6)), o 14 (.mv (.tm 0)), o 15 (.bin .eql (.tm 13) (.tm 14))]
abbrev r_ref06_in_5 : List COp := [o 4 (.mv (.k (.b true)))]
abbrev r_ref06_in_6 : List COp := [o 16 (.bin .add (.tm 9) (.k (.i .i64 1))), o 9 (.mv (.tm 16))]
def l_ref06_in_0 : C := (.seq (.reg r_ref06_in_2) (.seq (.cond (.tm 10) .skip (.exit 0)) (.seq (.blk 1 (.seq (.reg r_ref06_in_3) (.seq (.reg r_ref06_in_4) (.cond (.tm 15) (.seq (.reg r_ref06_in_5) .ret) .skip)))) (.reg r_ref06_in_6))))
abbrev r_ref06_in_7 : List COp := [o 4 (.mv (.k (.b false)))]
def b_ref06_in : C := (.seq (.reg r_ref06_in_0) (.seq (.seq (.reg r_ref06_in_1) (.blk 0 (.loop l_ref06_in_0))) (.seq (.reg r_ref06_in_7) .ret)))
abbrev c_ref06_in : CF := ⟨17, [(.tm 4)], b_ref06_in⟩
/-! polliwog/polliwoglaw06.num -/
abbrev r_law06_num_0 : List COp := [o 2 (.mv (.k (.i .u32 0)))]
abbrev r_law06_num_1 : List COp := [o 3 (.mv (.tm 0)), o 4 (.mxmn false [(.tm 3), (.k (.i .i64 4294967295))]), o 5 (.mxmn true [(.k (.i .i64 0)), (.tm 4)]), o 6 (.convI .u32 (.tm 5)), o 2 (.mv (.tm 6))]
def b_law06_num : C := (.seq (.reg r_law06_num_0) (.seq (.reg r_law06_num_1) .ret))
abbrev c_law06_num : CF := ⟨7, [(.tm 2)], b_law06_num⟩
/-! (polliwog/event.Signal).Text -/
abbrev r_event_Signal_Text_0 : List COp := [o 1 (.box (.tm 0)), o 2 (.mv (.k (.s [])))]
abbrev r_event_Signal_Text_1 : List COp := [o 5 (.faddr 0 (.tm 1)), o 6 (.load false 1 (.tm 5)), o 7 (.bin .lss (.tm 6) (.k (.i .i64 1))), o 8 (.mv (.tm 7)), ⟨(some 9), (.op (.faddr 0 (.tm 1))), (some (8, false))⟩, ⟨(some 10), (.op (.load false 1 (.tm 9))), (some (8, false))⟩, ⟨(some 11), (.op (.bin .gtr (.tm 10) (.k (.i .i64 12)))), (some (8, false))⟩, o 12 (.pick (.tm 8) (.k (.b true)) (.tm 11))]
abbrev r_event_Signal_Text_2 : List COp := [o 2 (.mv (.k (.s [])))]
abbrev r_event_Signal_Text_3 : List COp := [o 13 (.faddr 0 (.tm 1)), o 14 (.load false 1 (.tm 13)), o 15 (.iaddrA 13 1 (.gl 0) (.tm 14)), o 16 (.load false 1 (.tm 15)), o 3 (.mv (.tm 16))]
abbrev r_event_Signal_Text_4 : List COp := [o 17 (.faddr 0 (.tm 1)), o 18 (.load false 1 (.tm 17))]
abbrev r_event_Signal_Text_5 : List COp := [o 20 (.bin .eql (.tm 18) (.k (.i .i64 3))), o 19 (.mv (.tm 20))]
abbrev r_event_Signal_Text_6 : List COp := [o 4 (.mv (.k (.s [32, 117, 115, 101, 114, 32])))]
abbrev r_event_Signal_Text_7 : List COp := [o 21 (.faddr 2 (.tm 1)), o 22 (.load false 1 (.tm 21))]
abbrev r_event_Signal_Text_8 : List COp := [o 4 (.mv (.k (.s [32, 115, 101, 108, 102, 32])))]
abbrev r_event_Signal_Text_9 : List COp := [o 23 (.mv (.tm 3)), o 24 (.mv (.tm 4)), o 25 (.bin .add (.tm 23) (.tm 24)), o 26 (.faddr 1 (.tm 1)), o 27 (.load false 1 (.tm 26)), oC 28 n_event_Hex [(.tm 27)], o 29 (.bin .add (.tm 25) (.tm 28)), o 2 (.mv (.tm 29))]
abbrev r_event_Signal_Text_10 : List COp := [o 31 (.bin .eql (.tm 18) (.k (.i .i64 1))), o 30 (.mv (.tm 31))]
abbrev r_event_Signal_Text_11 : List COp := [o 32 (.bin .eql (.tm 18) (.k (.i .i64 5))), o 30 (.mv (.tm 32))]
abbrev r_event_Signal_Text_12 : List COp := [o 33 (.bin .eql (.tm 18) (.k (.i .i64 8))), o 30 (.mv (.tm 33))]
abbrev r_event_Signal_Text_13 : List COp := [o 34 (.bin .eql (.tm 18) (.k (.i .i64 9))), o 30 (.mv (.tm 34))]
abbrev r_event_Signal_Text_14 : List COp := [o 35 (.bin .eql (.tm 18) (.k (.i .i64 10))), o 30 (.mv (.tm 35))]
abbrev r_event_Signal_Text_15 : List COp := [o 36 (.bin .eql (.tm 18) (.k (.i .i64 11))), o 30 (.mv (.tm 36))]
abbrev r_event_Signal_Text_16 : List COp := [o 37 (.mv (.tm 3)), o 38 (.bin .add (.tm 37) (.k (.s [32]))), o 39 (.faddr 1 (.tm 1)), o 40 (.load false 1 (.tm 39)), oC 41 n_event_Hex [(.tm 40)], o 42 (.bin .add (.tm 38) (.tm 41)), o 2 (.mv (.tm 42))]
abbrev r_event_Signal_Text_17 : List COp := [o 44 (.bin .eql (.tm 18) (.k (.i .i64 12))), o 43 (.mv (.tm 44))]
abbrev r_event_Signal_Text_18 : List COp := [o 45 (.mv (.tm 3)), o 46 (.faddr 3 (.tm 1)), o 47 (.load false 1 (.tm 46)), o 48 (.bslice 1 [(.i .u8 0)] 1 [(0, (.tm 47))]), o 49 (.convBS (.tm 48)), o 50 (.bin .add (.k (.s [32])) (.tm 49)), o 51 (.bin .add (.tm 45) (.tm 50)), o 3 (.mv (.tm 51))]
abbrev r_event_Signal_Text_19 : List COp := [o 52 (.faddr 3 (.tm 1)), o 53 (.load false 1 (.tm 52)), o 54 (.bin .eql (.tm 53) (.k (.i .u8 86)))]
abbrev r_event_Signal_Text_20 : List COp := [o 55 (.mv (.tm 3)), o 56 (.faddr 4 (.tm 1)), o 57 (.load false 1 (.tm 56)), oC 58 n_strconv_Itoa [(.tm 57)], o 59 (.bin .add (.k (.s [32])) (.tm 58)), o 60 (.bin .add (.tm 55) (.tm 59)), o 3 (.mv (.tm 60))]
abbrev r_event_Signal_Text_21 : List COp := [o 61 (.mv (.tm 3)), o 2 (.mv (.tm 61))]
def b_event_Signal_Text : C := (.seq (.reg r_event_Signal_Text_0) (.seq (.seq (.reg r_event_Signal_Text_1) (.cond (.tm 12) (.seq (.reg r_event_Signal_Text_2) .ret) .skip)) (.seq (.reg r_event_Signal_Text_3) (.seq (.seq (.reg r_event_Signal_Text_4) (.blk 0 (.seq (.reg r_event_Signal_Text_5) (.cond (.tm 19) (.seq (.reg r_event_Signal_Text_6) (.seq (.seq (.reg r_event_Signal_Text_7) (.cond (.tm 22) (.reg r_event_Signal_Text_8) .skip)) (.seq (.reg r_event_Signal_Text_9) .ret))) (.seq (.seq (.reg r_event_Signal_Text_10) (.cond (.tm 30) .skip (.seq (.reg r_event_Signal_Text_11) (.cond (.tm 30) .skip (.seq (.reg r_event_Signal_Text_12) (.cond (.tm 30) .skip (.seq (.reg r_event_Signal_Text_13) (.cond (.tm 30) .skip (.seq (.reg r_event_Signal_Text_14) (.cond (.tm 30) .skip (.reg r_event_Signal_Text_15))))))))))) (.cond (.tm 30) (.seq (.reg r_event_Signal_Text_16) .ret) (.seq (.reg r_event_Signal_Text_17) (.cond (.tm 43) (.seq (.reg r_event_Signal_Text_18) (.seq (.reg r_event_Signal_Text_19) (.cond (.tm 54) (.reg r_event_Signal_Text_20) .skip))) .skip)))))))) (.seq (.reg r_event_Signal_Text_21) .ret)))))
abbrev c_event_Signal_Text : CF := ⟨62, [(.tm 2)], b_event_Signal_Text⟩
/-! polliwog/trace.number -/
abbrev r_trace_number_0 : List COp := [o 4 (.mv (.k (.i .i64 0))), o 5 (.mv (.k (.b false)))]
abbrev r_trace_number_1 : List COp := [o 10 (.mv (.tm 0)), o 11 (.mv (.tm 1)), oC 12 n_strings_CutPrefix [(.tm 10), (.tm 11)], o 9 (.mv (.tm 12)), o 13 (.extract (.tm 9) 0), o 14 (.extract (.tm 9) 1), o 0 (.mv (.tm 13)), o 6 (.mv (.tm 14))]
abbrev r_trace_number_2 : List COp := [o 16 (.mv (.tm 0)), oC 17 n_strconv_Atoi [(.tm 16)], o 15 (.mv (.tm 17)), o 18 (.extract (.tm 15) 0), o 19 (.extract (.tm 15) 1), o 7 (.mv (.tm 18)), o 8 (.mv (.tm 19))]
abbrev r_trace_number_3 : List COp := [o 20 (.mv (.tm 7)), o 21 (.mv (.tm 6)), o 22 (.mv (.tm 21)), ⟨(some 23), (.op (.mv (.tm 8))), (some (22, true))⟩, ⟨(some 24), (.op (.eq false .ifn (.tm 23) (.k .ni))), (some (22, true))⟩, o 25 (.pick (.tm 22) (.tm 24) (.k (.b false))), o 26 (.mv (.tm 25)), ⟨(some 27), (.op (.mv (.tm 7))), (some (26, true))⟩, ⟨(some 28), (.callf n_strconv_Itoa [(.tm 27)]), (some (26, true))⟩, ⟨(some 29), (.op (.mv (.tm 0))), (some (26, true))⟩, ⟨(some 30), (.op (.bin .eql (.tm 28) (.tm 29))), (some (26, true))⟩, o 31 (.pick (.tm 26) (.tm 30) (.k (.b false))), o 32 (.mv (.tm 31)), ⟨(some 33), (.op (.mv (.tm 7))), (some (32, true))⟩, ⟨(some 34), (.op (.bin .geq (.tm 33) (.k (.i .i64 0)))), (some (32, true))⟩, o 35 (.pick (.tm 32) (.tm 34) (.k (.b false))), o 36 (.mv (.tm 35)), ⟨(some 37), (.op (.mv (.tm 7))), (some (36, true))⟩, ⟨(some 38), (.op (.bin .lss (.tm 37) (.k (.i .i64 16777216)))), (some (36, true))⟩, o 39 (.pick (.tm 36) (.tm 38) (.k (.b false))), o 4 (.mv (.tm 20)), o 5 (.mv (.tm 39))]
def b_trace_number : C := (.seq (.reg r_trace_number_0) (.seq (.reg r_trace_number_1) (.seq (.reg r_trace_number_2) (.seq (.reg r_trace_number_3) .ret))))
abbrev c_trace_number : CF := ⟨40, [(.tm 4), (.tm 5)], b_trace_number⟩
/-! polliwog/seq.Of -/
abbrev r_seq_Of_0 : List COp := [o 2 (.mv (.k (.i .u32 0)))]
abbrev r_seq_Of_1 : List COp := [o 3 (.mv (.tm 0)), o 4 (.convI .u32 (.tm 3)), o 5 (.bin .and (.tm 4) (.k (.i .u32 16777215))), o 2 (.mv (.tm 5))]
def b_seq_Of : C := (.seq (.reg r_seq_Of_0) (.seq (.reg r_seq_Of_1) .ret))
abbrev c_seq_Of : CF := ⟨6, [(.tm 2)], b_seq_Of⟩
/-! polliwog/trace.nums -/
abbrev r_trace_nums_0 : List COp := [o 2 (.mv (.k (.sl none 0 (some 0) 0))), o 3 (.mv (.k (.b false)))]
abbrev r_trace_nums_1 : List COp := [o 11 (.mv (.tm 0)), oC 12 n_strings_CutPrefix [(.tm 11), (.k (.s [108]))], o 10 (.mv (.tm 12)), o 13 (.extract (.tm 10) 0), o 14 (.extract (.tm 10) 1), o 0 (.mv (.tm 13)), o 4 (.mv (.tm 14))]
abbrev r_trace_nums_2 : List COp := [o 15 (.mv (.tm 4)), o 16 (.un .not (.tm 15)), o 17 (.mv (.tm 16)), ⟨(some 18), (.op (.mv (.tm 0))), (some (17, false))⟩, ⟨(some 19), (.op (.bin .eql (.tm 18) (.k (.s [45])))), (some (17, false))⟩, o 20 (.pick (.tm 17) (.k (.b true)) (.tm 19))]
abbrev r_trace_nums_3 : List COp := [o 21 (.mv (.tm 4)), o 2 (.mv (.k (.sl none 0 (some 0) 0))), o 3 (.mv (.tm 21))]
abbrev r_trace_nums_4 : List COp := [o 5 (.mv (.k (.sl none 0 (some 0) 0)))]
abbrev r_trace_nums_5 : List COp := [o 22 (.mv (.tm 0)), oC 23 n_strings_Split [(.tm 22), (.k (.s [44]))], o 24 (.len .slice (.tm 23)), o 25 (.mv (.k (.i .i64 0)))]
abbrev r_trace_nums_6 : List COp := [o 26 (.bin .lss (.tm 25) (.tm 24))]
abbrev r_trace_nums_7 : List COp := [o 27 (.iaddrL 1 (.tm 23) (.tm 25)), o 28 (.load false 1 (.tm 27)), o 7 (.mv (.tm 28))]
abbrev r_trace_nums_8 : List COp := [o 30 (.mv (.tm 7)), oC 31 n_trace_number [(.tm 30), (.k (.s []))], o 29 (.mv (.tm 31)), o 32 (.extract (.tm 29) 0), o 33 (.extract (.tm 29) 1), o 8 (.mv (.tm 32)), o 9 (.mv (.tm 33))]
abbrev r_trace_nums_9 : List COp := [o 34 (.mv (.tm 9)), o 35 (.un .not (.tm 34))]
abbrev r_trace_nums_10 : List COp := [o 2 (.mv (.k (.sl none 0 (some 0) 0))), o 3 (.mv (.k (.b false)))]
abbrev r_trace_nums_11 : List COp := [o 36 (.mv (.tm 5)), o 37 (.mv (.tm 8)), oC 38 n_seq_Of [(.tm 37)], o 39 (.bslice 1 [(.i .u32 0)] 1 [(0, (.tm 38))]), o 40 (.append false 1 4 (.tm 36) (.tm 39)), o 5 (.mv (.tm 40))]
abbrev r_trace_nums_12 : List COp := [o 41 (.bin .add (.tm 25) (.k (.i .i64 1))), o 25 (.mv (.tm 41))]
def l_trace_nums_0 : C := (.seq (.reg r_trace_nums_6) (.seq (.cond (.tm 26) .skip (.exit 0)) (.seq (.blk 1 (.seq (.reg r_trace_nums_7) (.seq (.reg r_trace_nums_8) (.seq (.seq (.reg r_trace_nums_9) (.cond (.tm 35) (.seq (.reg r_trace_nums_10) .ret) .skip)) (.reg r_trace_nums_11))))) (.reg r_trace_nums_12))))
abbrev r_trace_nums_13 : List COp := [o 42 (.mv (.tm 5)), o 2 (.mv (.tm 42)), o 3 (.mv (.k (.b true)))]
def b_trace_nums : C := (.seq (.reg r_trace_nums_0) (.seq (.reg r_trace_nums_1) (.seq (.seq (.reg r_trace_nums_2) (.cond (.tm 20) (.seq (.reg r_trace_nums_3) .ret) .skip)) (.seq (.reg r_trace_nums_4) (.seq (.seq (.reg r_trace_nums_5) (.blk 0 (.loop l_trace_nums_0))) (.seq (.reg r_trace_nums_13) .ret))))))
abbrev c_trace_nums : CF := ⟨43, [(.tm 2), (.tm 3)], b_trace_nums⟩
/-! strings.CutPrefix -/
abbrev r_strings_CutPrefix_0 : List COp := [o 4 (.mv (.k (.s []))), o 5 (.mv (.k (.b false)))]
abbrev r_strings_CutPrefix_1 : List COp := [o 6 (.mv (.tm 0)), o 7 (.mv (.tm 1)), oC 8 n_istringslite_CutPrefix [(.tm 6), (.tm 7)], o 9 (.extract (.tm 8) 0), o 10 (.extract (.tm 8) 1), o 4 (.mv (.tm 9)), o 5 (.mv (.tm 10))]
def b_strings_CutPrefix : C := (.seq (.reg r_strings_CutPrefix_0) (.seq (.reg r_strings_CutPrefix_1) .ret))
abbrev c_strings_CutPrefix : CF := ⟨11, [(.tm 4), (.tm 5)], b_strings_CutPrefix⟩
/-! polliwog/event.Unhex -/
abbrev r_event_Unhex_0 : List COp := [o 2 (.mv (.k (.s []))), o 3 (.mv (.k (.b false)))]
abbrev r_event_Unhex_1 : List COp := [o 8 (.mv (.tm 0)), o 9 (.bin .eql (.tm 8) (.k (.s [45])))]
abbrev r_event_Unhex_2 : List COp := [o 2 (.mv (.k (.s []))), o 3 (.mv (.k (.b true)))]
abbrev r_event_Unhex_3 : List COp := [o 10 (.mv (.tm 0)), o 11 (.bin .eql (.tm 10) (.k (.s []))), o 12 (.mv (.tm 11)), ⟨(some 13), (.op (.mv (.tm 0))), (some (12, false))⟩, ⟨(some 14), (.op (.len .str (.tm 13))), (some (12, false))⟩, ⟨(some 15), (.op (.bin .rem (.tm 14) (.k (.i .i64 2)))), (some (12, false))⟩, ⟨(some 16), (.op (.bin .neq (.tm 15) (.k (.i .i64 0)))), (some (12, false))⟩, o 17 (.pick (.tm 12) (.k (.b true)) (.tm 16))]
abbrev r_event_Unhex_4 : List COp := [o 2 (.mv (.k (.s []))), o 3 (.mv (.k (.b false)))]
abbrev r_event_Unhex_5 : List COp := [o 4 (.alloc [(.p none), (.sl none 0 (some 0) 0)] tyB)]
abbrev r_event_Unhex_6 : List COp := [o 5 (.mv (.k (.i .i64 0)))]
abbrev r_event_Unhex_7 : List COp := [o 18 (.mv (.tm 5)), o 19 (.mv (.tm 0)), o 20 (.len .str (.tm 19)), o 21 (.bin .lss (.tm 18) (.tm 20))]
abbrev r_event_Unhex_8 : List COp := [o 24 (.mv (.tm 0)), o 25 (.mv (.tm 5)), o 26 (.indexS (.tm 24) (.tm 25)), o 28 (.mv (.tm 0)), o 29 (.mv (.tm 5)), o 30 (.bin .add (.tm 29) (.k (.i .i64 1))), o 31 (.indexS (.tm 28) (.tm 30)), oC 27 n_strings_IndexByte [(.k (.s [48, 49, 50, 51, 52, 53, 54, 55, 56, 57, 97, 98, 99, 100, 101, 102])), (.tm 26)], oC 32 n_strings_IndexByte [(.k (.s [48, 49, 50, 51, 52, 53, 54, 55, 56, 57, 97, 98, 99, 100, 101, 102])), (.tm 31)], o 6 (.mv (.tm 27)), o 7 (.mv (.tm 32))]
abbrev r_event_Unhex_9 : List COp := [o 33 (.mv (.tm 6)), o 34 (.bin .lss (.tm 33) (.k (.i .i64 0))), o 35 (.mv (.tm 34)), ⟨(some 36), (.op (.mv (.tm 7))), (some (35, false))⟩, ⟨(some 37), (.op (.bin .lss (.tm 36) (.k (.i .i64 0)))), (some (35, false))⟩, o 38 (.pick (.tm 35) (.k (.b true)) (.tm 37))]
abbrev r_event_Unhex_10 : List COp := [o 2 (.mv (.k (.s []))), o 3 (.mv (.k (.b false)))]
abbrev r_event_Unhex_11 : List COp := [o 39 (.mv (.tm 6)), o 40 (.bin .shl (.tm 39) (.k (.i .u64 4))), o 41 (.mv (.tm 7)), o 42 (.bin .or (.tm 40) (.tm 41)), o 43 (.convI .u8 (.tm 42)), oC 44 n_strings_Builder_WriteByte [(.tm 4), (.tm 43)]]
abbrev r_event_Unhex_12 : List COp := [o 22 (.mv (.tm 5)), o 23 (.bin .add (.tm 22) (.k (.i .i64 2))), o 5 (.mv (.tm 23))]
def l_event_Unhex_0 : C := (.seq (.seq (.reg r_event_Unhex_7) (.cond (.tm 21) .skip (.exit 0))) (.seq (.blk 1 (.seq (.draw r_event_Unhex_8 [] []) (.seq (.seq (.reg r_event_Unhex_9) (.cond (.tm 38) (.seq (.reg r_event_Unhex_10) .ret) .skip)) (.reg r_event_Unhex_11)))) (.reg r_event_Unhex_12)))
abbrev r_event_Unhex_13 : List COp := [oC 45 n_strings_Builder_String [(.tm 4)], o 2 (.mv (.tm 45)), o 3 (.mv (.k (.b true)))]
def b_event_Unhex : C := (.seq (.reg r_event_Unhex_0) (.seq (.seq (.reg r_event_Unhex_1) (.cond (.tm 9) (.seq (.reg r_event_Unhex_2) .ret) .skip)) (.seq (.seq (.reg r_event_Unhex_3) (.cond (.tm 17) (.seq (.reg r_event_Unhex_4) .ret) .skip)) (.seq (.reg r_event_Unhex_5) (.seq (.seq (.reg r_event_Unhex_6) (.blk 0 (.loop l_event_Unhex_0))) (.seq (.reg r_event_Unhex_13) .ret))))))
abbrev c_event_Unhex : CF := ⟨46, [(.tm 2), (.tm 3)], b_event_Unhex⟩
/-! (*strings.Builder).WriteByte -/
abbrev r_strings_Builder_WriteByte_0 : List COp := [o 4 (.mv (.k .ni))]
abbrev r_strings_Builder_WriteByte_1 : List COp := [o 5 (.mv (.tm 0)), oC 6 n_strings_Builder_copyCheck [(.tm 5)]]
abbrev r_strings_Builder_WriteByte_2 : List COp := [o 7 (.mv (.tm 0)), o 8 (.mv (.tm 0)), o 9 (.nilck (.tm 8)), o 10 (.faddr 1 (.tm 9)), o 11 (.load false 1 (.tm 10)), o 12 (.mv (.tm 1)), o 13 (.bslice 1 [(.i .u8 0)] 1 [(0, (.tm 12))]), o 14 (.appendT 1000005 false 1 1 (.tm 11) (.tm 13)), o 15 (.nilck (.tm 7)), o 16 (.faddr 1 (.tm 15)), oN (.store 1 (.tm 16) (.tm 14))]
abbrev r_strings_Builder_WriteByte_3 : List COp := [o 4 (.mv (.k .ni))]
def b_strings_Builder_WriteByte : C := (.seq (.reg r_strings_Builder_WriteByte_0) (.seq (.reg r_strings_Builder_WriteByte_1) (.seq (.reg r_strings_Builder_WriteByte_2) (.seq (.reg r_strings_Builder_WriteByte_3) .ret))))
abbrev c_strings_Builder_WriteByte : CF := ⟨17, [(.tm 4)], b_strings_Builder_WriteByte⟩
/-! (polliwog/seq.Num).Low -/
abbrev r_seq_Num_Low_0 : List COp := [o 2 (.mv (.k (.i .u32 0)))]
abbrev r_seq_Num_Low_1 : List COp := [o 3 (.mv (.tm 0)), o 4 (.bin .and (.tm 3) (.k (.i .u32 16777215))), o 2 (.mv (.tm 4))]
def b_seq_Num_Low : C := (.seq (.reg r_seq_Num_Low_0) (.seq (.reg r_seq_Num_Low_1) .ret))
abbrev c_seq_Num_Low : CF := ⟨5, [(.tm 2)], b_seq_Num_Low⟩
/-! slices.IndexFunc[[]polliwog/seq.Num,polliwog/seq.Num] -/
abbrev r_slices_IndexFunc_Lseq_Num_seq_Num_0 : List COp := [o 4 (.mv (.k (.i .i64 0)))]
abbrev r_slices_IndexFunc_Lseq_Num_seq_Num_1 : List COp := [o 6 (.mv (.tm 0)), o 7 (.len .slice (.tm 6)), o 8 (.mv (.k (.i .i64 0)))]
abbrev r_slices_IndexFunc_Lseq_Num_seq_Num_2 : List COp := [o 9 (.bin .lss (.tm 8) (.tm 7))]
abbrev r_slices_IndexFunc_Lseq_Num_seq_Num_3 : List COp := [o 10 (.mv (.tm 8)), o 5 (.mv (.tm 10))]
abbrev r_slices_IndexFunc_Lseq_Num_seq_Num_4 : List COp := [o 11 (.mv (.tm 1)), o 12 (.mv (.tm 0)), o 13 (.mv (.tm 5)), o 14 (.iaddrL 1 (.tm 12) (.tm 13)), o 15 (.load false 1 (.tm 14)), ⟨(some 16), (.callv (.tm 11) [(.tm 15)]), none⟩]
abbrev r_slices_IndexFunc_Lseq_Num_seq_Num_5 : List COp := [o 17 (.mv (.tm 5)), o 4 (.mv (.tm 17))]
abbrev r_slices_IndexFunc_Lseq_Num_seq_Num_6 : List COp := [o 18 (.bin .add (.tm 8) (.k (.i .i64 1))), o 8 (.mv (.tm 18))]
def l_slices_IndexFunc_Lseq_Num_seq_Num_0 : C := (.seq (.reg r_slices_IndexFunc_Lseq_Num_seq_Num_2) (.seq (.cond (.tm 9) .skip (.exit 0)) (.seq (.blk 1 (.seq (.reg r_slices_IndexFunc_Lseq_Num_seq_Num_3) (.seq (.reg r_slices_IndexFunc_Lseq_Num_seq_Num_4) (.cond (.tm 16) (.seq (.reg r_slices_IndexFunc_Lseq_Num_seq_Num_5) .ret) .skip)))) (.reg r_slices_IndexFunc_Lseq_Num_seq_Num_6))))
abbrev r_slices_IndexFunc_Lseq_Num_seq_Num_7 : List COp := [o 4 (.mv (.k (.i .i64 (-1))))]
def b_slices_IndexFunc_Lseq_Num_seq_Num : C := (.seq (.reg r_slices_IndexFunc_Lseq_Num_seq_Num_0) (.seq (.seq (.reg r_slices_IndexFunc_Lseq_Num_seq_Num_1) (.blk 0 (.loop l_slices_IndexFunc_Lseq_Num_seq_Num_0))) (.seq (.reg r_slices_IndexFunc_Lseq_Num_seq_Num_7) .ret)))
abbrev c_slices_IndexFunc_Lseq_Num_seq_Num : CF := ⟨19, [(.tm 4)], b_slices_IndexFunc_Lseq_Num_seq_Num⟩
/-! internal/stringslite.CutPrefix -/
abbrev r_istringslite_CutPrefix_0 : List COp := [o 4 (.mv (.k (.s []))), o 5 (.mv (.k (.b false)))]
abbrev r_istringslite_CutPrefix_1 : List COp := [o 6 (.mv (.tm 0)), o 7 (.mv (.tm 1)), oC 8 n_istringslite_HasPrefix [(.tm 6), (.tm 7)], o 9 (.un .not (.tm 8))]
abbrev r_istringslite_CutPrefix_2 : List COp := [o 10 (.mv (.tm 0)), o 4 (.mv (.tm 10)), o 5 (.mv (.k (.b false)))]
abbrev r_istringslite_CutPrefix_3 : List COp := [o 11 (.mv (.tm 0)), o 12 (.mv (.tm 1)), o 13 (.len .str (.tm 12)), o 14 (.sliceS (.tm 11) (some (.tm 13)) none), o 4 (.mv (.tm 14)), o 5 (.mv (.k (.b true)))]
def b_istringslite_CutPrefix : C := (.seq (.reg r_istringslite_CutPrefix_0) (.seq (.seq (.reg r_istringslite_CutPrefix_1) (.cond (.tm 9) (.seq (.reg r_istringslite_CutPrefix_2) .ret) .skip)) (.seq (.reg r_istringslite_CutPrefix_3) .ret)))
abbrev c_istringslite_CutPrefix : CF := ⟨15, [(.tm 4), (.tm 5)], b_istringslite_CutPrefix⟩
/-! internal/stringslite.HasPrefix -/
abbrev r_istringslite_HasPrefix_0 : List COp := [o 4 (.mv (.k (.b false)))]
abbrev r_istringslite_HasPrefix_1 : List COp := [o 5 (.mv (.tm 0)), o 6 (.len .str (.tm 5)), o 7 (.mv (.tm 1)), o 8 (.len .str (.tm 7)), o 9 (.bin .geq (.tm 6) (.tm 8)), o 10 (.mv (.tm 9)), ⟨(some 11), (.op (.mv (.tm 0))), (some (10, true))⟩, ⟨(some 12), (.op (.mv (.tm 1))), (some (10, true))⟩, ⟨(some 13), (.op (.len .str (.tm 12))), (some (10, true))⟩, ⟨(some 14), (.op (.sliceS (.tm 11) none (some (.tm 13)))), (some (10, true))⟩, ⟨(some 15), (.op (.mv (.tm 1))), (some (10, true))⟩, ⟨(some 16), (.op (.bin .eql (.tm 14) (.tm 15))), (some (10, true))⟩, o 17 (.pick (.tm 10) (.tm 16) (.k (.b false))), o 4 (.mv (.tm 17))]
def b_istringslite_HasPrefix : C := (.seq (.reg r_istringslite_HasPrefix_0) (.seq (.reg r_istringslite_HasPrefix_1) .ret))
abbrev c_istringslite_HasPrefix : CF := ⟨18, [(.tm 4)], b_istringslite_HasPrefix⟩
def F : Nat → Option CF
  | 3 => some c_law19_TraceReads
  | 4 => some c_law19_TraceUnlike
  | 5 => some c_law19_TraceKinds
  | 6 => some c_law19_awake
  | 7 => some c_law02_Cut
  | 8 => some c_trace_Parse
  | 9 => some c_trace_Unit
  | 10 => some c_pdu_PDU_Check
  | 11 => some c_law06_Few
  | 12 => some c_ref06_Check
  | 13 => some c_law06_Own
  | 14 => some c_law06_Same
  | 15 => some c_ref06_HasSQ
  | 16 => some c_ref06_HasN
  | 17 => some c_ref06_Most
  | 18 => some c_pdu_PDU_Name
  | 19 => some c_trace_Record
  | 21 => some c_trace_kind
  | 22 => some c_trace_has
  | 23 => some c_trace_take
  | 25 => some c_trace_list
  | 26 => some c_event_Hex
  | 27 => some c_pdu_shapeOf
  | 28 => some c_pdu_low
  | 29 => some c_slices_ContainsFunc_Lseq_Num_seq_Num
  | 30 => some c_pdu_PDU_Check_1
  | 31 => some c_law06_Few_1
  | 32 => some c_ref06_low
  | 33 => some c_ref06_in
  | 34 => some c_law06_num
  | 35 => some c_event_Signal_Text
  | 37 => some c_trace_number
  | 38 => some c_seq_Of
  | 39 => some c_trace_nums
  | 40 => some c_strings_CutPrefix
  | 41 => some c_event_Unhex
  | 44 => some c_strings_Builder_WriteByte
  | 46 => some c_seq_Num_Low
  | 47 => some c_slices_IndexFunc_Lseq_Num_seq_Num
  | 52 => some c_istringslite_CutPrefix
  | 64 => some c_istringslite_HasPrefix
  | _ => none
theorem F_law19_TraceReads : F n_law19_TraceReads = some c_law19_TraceReads := rfl
theorem F_law19_TraceUnlike : F n_law19_TraceUnlike = some c_law19_TraceUnlike := rfl
theorem F_law19_TraceKinds : F n_law19_TraceKinds = some c_law19_TraceKinds := rfl
theorem F_law19_awake : F n_law19_awake = some c_law19_awake := rfl
theorem F_law02_Cut : F n_law02_Cut = some c_law02_Cut := rfl
theorem F_trace_Parse : F n_trace_Parse = some c_trace_Parse := rfl
theorem F_trace_Unit : F n_trace_Unit = some c_trace_Unit := rfl
theorem F_pdu_PDU_Check : F n_pdu_PDU_Check = some c_pdu_PDU_Check := rfl
theorem F_law06_Few : F n_law06_Few = some c_law06_Few := rfl
theorem F_ref06_Check : F n_ref06_Check = some c_ref06_Check := rfl
theorem F_law06_Own : F n_law06_Own = some c_law06_Own := rfl
theorem F_law06_Same : F n_law06_Same = some c_law06_Same := rfl
theorem F_ref06_HasSQ : F n_ref06_HasSQ = some c_ref06_HasSQ := rfl
theorem F_ref06_HasN : F n_ref06_HasN = some c_ref06_HasN := rfl
theorem F_ref06_Most : F n_ref06_Most = some c_ref06_Most := rfl
theorem F_pdu_PDU_Name : F n_pdu_PDU_Name = some c_pdu_PDU_Name := rfl
theorem F_trace_Record : F n_trace_Record = some c_trace_Record := rfl
theorem F_trace_kind : F n_trace_kind = some c_trace_kind := rfl
theorem F_trace_has : F n_trace_has = some c_trace_has := rfl
theorem F_trace_take : F n_trace_take = some c_trace_take := rfl
theorem F_trace_list : F n_trace_list = some c_trace_list := rfl
theorem F_event_Hex : F n_event_Hex = some c_event_Hex := rfl
theorem F_pdu_shapeOf : F n_pdu_shapeOf = some c_pdu_shapeOf := rfl
theorem F_pdu_low : F n_pdu_low = some c_pdu_low := rfl
theorem F_slices_ContainsFunc_Lseq_Num_seq_Num : F n_slices_ContainsFunc_Lseq_Num_seq_Num = some c_slices_ContainsFunc_Lseq_Num_seq_Num := rfl
theorem F_pdu_PDU_Check_1 : F n_pdu_PDU_Check_1 = some c_pdu_PDU_Check_1 := rfl
theorem F_law06_Few_1 : F n_law06_Few_1 = some c_law06_Few_1 := rfl
theorem F_ref06_low : F n_ref06_low = some c_ref06_low := rfl
theorem F_ref06_in : F n_ref06_in = some c_ref06_in := rfl
theorem F_law06_num : F n_law06_num = some c_law06_num := rfl
theorem F_event_Signal_Text : F n_event_Signal_Text = some c_event_Signal_Text := rfl
theorem F_trace_number : F n_trace_number = some c_trace_number := rfl
theorem F_seq_Of : F n_seq_Of = some c_seq_Of := rfl
theorem F_trace_nums : F n_trace_nums = some c_trace_nums := rfl
theorem F_strings_CutPrefix : F n_strings_CutPrefix = some c_strings_CutPrefix := rfl
theorem F_event_Unhex : F n_event_Unhex = some c_event_Unhex := rfl
theorem F_strings_Builder_WriteByte : F n_strings_Builder_WriteByte = some c_strings_Builder_WriteByte := rfl
theorem F_seq_Num_Low : F n_seq_Num_Low = some c_seq_Num_Low := rfl
theorem F_slices_IndexFunc_Lseq_Num_seq_Num : F n_slices_IndexFunc_Lseq_Num_seq_Num = some c_slices_IndexFunc_Lseq_Num_seq_Num := rfl
theorem F_istringslite_CutPrefix : F n_istringslite_CutPrefix = some c_istringslite_CutPrefix := rfl
theorem F_istringslite_HasPrefix : F n_istringslite_HasPrefix = some c_istringslite_HasPrefix := rfl
end Am
end Go.Proofs.YtjjkjfdojifchaaDoor
