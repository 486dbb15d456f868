/-
  THE ABSTRACT MACHINE'S FORM OF THE SEAT'S FUNCTIONS (printed by wip/am/Print2.lean).
  Conditions: none (definitions).
-/
import Derived.Test.YtcndgnddipbbgaaGreatAmW
set_option maxRecDepth 100000
namespace Go.Proofs.YtcndgnddipbbgaaGreat
namespace Am
def G : Nat → Option Nat := fun g => none
abbrev tyU8 : Nat := 1000005
abbrev tyB : Nat := 228
abbrev n_law18_LinkConfigs : Nat := 3
abbrev n_law18_awake : Nat := 4
abbrev n_law18_LinkConfigs_1 : Nat := 5
abbrev n_link_New : Nat := 6
abbrev n_law18_Config_Own : Nat := 7
abbrev n_ref16_Check : Nat := 8
abbrev n_link_Config_Check : Nat := 9
abbrev n_law18_Start : Nat := 10
abbrev n_link_Link_Quiet : Nat := 11
abbrev n_link_Link_Request : Nat := 12
abbrev n_link_Link_Pipe : Nat := 13
abbrev n_ring_Ring_string_Len : Nat := 14
abbrev n_link_Link_Node : Nat := 15
abbrev n_wire_New : Nat := 16
abbrev n_node_New : Nat := 17
abbrev n_pipe_New : Nat := 18
abbrev n_law16_Own : Nat := 19
abbrev n_ref15_Check : Nat := 20
abbrev n_node_Config_Check : Nat := 21
abbrev n_law18_Config_Right : Nat := 22
abbrev n_ref18_New : Nat := 23
abbrev n_node_Node_Quiet : Nat := 24
abbrev n_link_is : Nat := 25
abbrev n_node_Node_Request : Nat := 26
abbrev n_link_Link_pump : Nat := 27
abbrev n_link_told : Nat := 28
abbrev n_crc_Make : Nat := 29
abbrev n_pace_New : Nat := 30
abbrev n_conn_New : Nat := 31
abbrev n_seq_Num_Add : Nat := 32
abbrev n_ring_New_pdu_PDU : Nat := 33
abbrev n_ring_New_string : Nat := 34
abbrev n_seq_Of : Nat := 35
abbrev n_law15_Own : Nat := 36
abbrev n_node_Config_Check_1 : Nat := 37
abbrev n_seq_Num_Low : Nat := 38
abbrev n_pace_Config_Check : Nat := 39
abbrev n_law16_Right : Nat := 40
abbrev n_ref16_New : Nat := 41
abbrev n_ring_Ring_pdu_PDU_Len : Nat := 42
abbrev n_node_Node_ready : Nat := 43
abbrev n_node_Node_idle : Nat := 44
abbrev n_recv_Recv_Vars : Nat := 45
abbrev n_event_Request_Check : Nat := 46
abbrev n_rules_May : Nat := 47
abbrev n_conn_Conn_Vars : Nat := 48
abbrev n_node_Node_ask : Nat := 49
abbrev n_node_Node_credit : Nat := 50
abbrev n_ring_Ring_string_Room : Nat := 51
abbrev n_node_Node_Next : Nat := 52
abbrev n_wire_Wire_Pack : Nat := 53
abbrev n_pipe_Pipe_Put : Nat := 54
abbrev n_law16_Right_1 : Nat := 55
abbrev n_ref01_Of : Nat := 56
abbrev n_law15_Right : Nat := 57
abbrev n_ref14_New : Nat := 58
abbrev n_ref15_New : Nat := 59
abbrev n_send_Send_Idle : Nat := 60
abbrev n_rules_requests : Nat := 61
abbrev n_send_Send_Put : Nat := 62
abbrev n_pace_Pace_Busy : Nat := 63
abbrev n_ring_Ring_pdu_PDU_Put : Nat := 64
abbrev n_recv_Recv_Take : Nat := 65
abbrev n_conn_Conn_Request : Nat := 66
abbrev n_node_Node_bring : Nat := 67
abbrev n_send_Send_Lacks : Nat := 68
abbrev n_node_report : Nat := 69
abbrev n_slices_Clone_Lpdu_PDU_pdu_PDU : Nat := 70
abbrev n_ring_Ring_pdu_PDU_Take : Nat := 71
abbrev n_recv_Recv_Stat : Nat := 72
abbrev n_recv_Recv_Gap : Nat := 73
abbrev n_send_Send_Due : Nat := 74
abbrev n_send_Send_Poll : Nat := 75
abbrev n_pace_Pace_Polled : Nat := 76
abbrev n_send_Send_Next : Nat := 77
abbrev n_pdu_PDU_Check : Nat := 78
abbrev n_pdu_PDU_Bytes : Nat := 79
abbrev n_frame_Frame_Bytes : Nat := 80
abbrev n_ring_Ring_string_Put : Nat := 81
abbrev n_rules_row : Nat := 82
abbrev n_timer_Bank_Runs : Nat := 83
abbrev n_pace_Pace_stop : Nat := 84
abbrev n_timer_Bank_Start : Nat := 85
abbrev n_pace_Pace_watch : Nat := 86
abbrev n_ring_Ring_pdu_PDU_Room : Nat := 87
abbrev n_ring_Ring_pdu_PDU_grow : Nat := 88
abbrev n_ring_Ring_pdu_PDU_place : Nat := 89
abbrev n_slices_Clone_Lstring_string : Nat := 90
abbrev n_conn_Conn_done : Nat := 91
abbrev n_conn_Conn_Request_1 : Nat := 92
abbrev n_conn_act_ask : Nat := 93
abbrev n_slices_DeleteFunc_Lpdu_PDU_pdu_PDU : Nat := 94
abbrev n_node_Node_bring_1 : Nat := 95
abbrev n_pace_Pace_Again : Nat := 96
abbrev n_pace_Pace_Enough : Nat := 97
abbrev n_pace_Pace_End : Nat := 98
abbrev n_send_Send_Left : Nat := 99
abbrev n_node_Node_over : Nat := 100
abbrev n_send_New : Nat := 101
abbrev n_recv_New : Nat := 102
abbrev n_send_Send_Open : Nat := 103
abbrev n_pace_Pace_Begin : Nat := 104
abbrev n_ring_Ring_pdu_PDU_First : Nat := 105
abbrev n_recv_Recv_renew : Nat := 106
abbrev n_gaps_List : Nat := 107
abbrev n_recv_Recv_missing : Nat := 108
abbrev n_recv_Recv_still : Nat := 109
abbrev n_send_Send_out : Nat := 110
abbrev n_ring_Ring_string_Take : Nat := 111
abbrev n_pdu_shapeOf : Nat := 112
abbrev n_pdu_low : Nat := 113
abbrev n_slices_ContainsFunc_Lseq_Num_seq_Num : Nat := 114
abbrev n_pdu_PDU_Check_1 : Nat := 115
abbrev n_strings_Builder_WriteString : Nat := 116
abbrev n_strings_Repeat : Nat := 117
abbrev n_pdu_PDU_words : Nat := 118
abbrev n_pdu_four : Nat := 119
abbrev n_pdu_bit : Nat := 120
abbrev n_strings_Builder_String : Nat := 121
abbrev n_frame_Cells : Nat := 122
abbrev n_crc_Table_Seal : Nat := 123
abbrev n_ring_Ring_string_grow : Nat := 124
abbrev n_ring_Ring_string_place : Nat := 125
abbrev n_timer_Bank_Left : Nat := 126
abbrev n_timer_Bank_Stop : Nat := 127
abbrev n_timer_is : Nat := 128
abbrev n_ring_Ring_pdu_PDU_All : Nat := 129
abbrev n_conn_act_begin : Nat := 130
abbrev n_conn_act_out : Nat := 131
abbrev n_conn_act_ready : Nat := 132
abbrev n_conn_act_to : Nat := 133
abbrev n_conn_act_leave : Nat := 134
abbrev n_slices_IndexFunc_Lpdu_PDU_pdu_PDU : Nat := 135
abbrev n_ring_Ring_string_All : Nat := 136
abbrev n_send_New_1 : Nat := 137
abbrev n_seq_Num_To : Nat := 138
abbrev n_seq_Max : Nat := 139
abbrev n_span_Set_Both : Nat := 140
abbrev n_span_Of : Nat := 141
abbrev n_ring_Ring_string_First : Nat := 143
abbrev n_slices_IndexFunc_Lseq_Num_seq_Num : Nat := 144
abbrev n_strings_Builder_copyCheck : Nat := 145
abbrev n_crc_four : Nat := 150
abbrev n_crc_Table_Sum : Nat := 151
abbrev n_conn_act_again : Nat := 152
abbrev n_conn_act_stop : Nat := 153
abbrev n_span_Span_near : Nat := 154
abbrev n_span_Span_empty : Nat := 155
abbrev n_slices_SortFunc_Lspan_Span_span_Span : Nat := 156
abbrev n_span_Of_1 : Nat := 157
abbrev n_cmp_Compare_int : Nat := 158
abbrev n_cmp_isNaN_int : Nat := 166
/-! polliwog/polliwoglaw18.LinkConfigs -/
abbrev r_law18_LinkConfigs_0 : List COp := [o 1 (.box (.tm 0)), o 2 (.mv (.k (.b false)))]
abbrev r_law18_LinkConfigs_1 : List COp := [oC 7 n_law18_awake [], o 8 (.un .not (.tm 7))]
abbrev r_law18_LinkConfigs_2 : List COp := [o 2 (.mv (.k (.b false)))]
abbrev r_law18_LinkConfigs_3 : List COp := [o 9 (.faddr 0 (.tm 1)), o 10 (.faddr 6 (.tm 9)), o 11 (.load false 1 (.tm 10)), o 12 (.len .slice (.tm 11)), o 13 (.bin .neq (.tm 12) (.k (.i .i64 5)))]
abbrev r_law18_LinkConfigs_4 : List COp := [o 14 (.bslice 1 [(.i .i64 0)] 5 [(0, (.k (.i .i64 3))), (1, (.k (.i .i64 2))), (2, (.k (.i .i64 5))), (3, (.k (.i .i64 9))), (4, (.k (.i .i64 4)))]), o 15 (.faddr 0 (.tm 1)), o 16 (.faddr 6 (.tm 15)), oN (.store 1 (.tm 16) (.tm 14))]
abbrev r_law18_LinkConfigs_5 : List COp := [o 17 (.faddr 7 (.tm 1)), o 18 (.faddr 6 (.tm 17)), o 19 (.load false 1 (.tm 18)), o 20 (.len .slice (.tm 19)), o 21 (.bin .neq (.tm 20) (.k (.i .i64 5)))]
abbrev r_law18_LinkConfigs_6 : List COp := [o 22 (.bslice 1 [(.i .i64 0)] 5 [(0, (.k (.i .i64 3))), (1, (.k (.i .i64 2))), (2, (.k (.i .i64 5))), (3, (.k (.i .i64 9))), (4, (.k (.i .i64 4)))]), o 23 (.faddr 7 (.tm 1)), o 24 (.faddr 6 (.tm 23)), oN (.store 1 (.tm 24) (.tm 22))]
abbrev r_law18_LinkConfigs_7 : List COp := [o 3 (.mv (.fn n_law18_LinkConfigs_1))]
abbrev r_law18_LinkConfigs_8 : List COp := [o 25 (.mv (.tm 3)), o 26 (.faddr 0 (.tm 1)), o 27 (.faddr 5 (.tm 26)), o 28 (.load false 1 (.tm 27)), o 30 (.mv (.tm 3)), o 31 (.faddr 7 (.tm 1)), o 32 (.faddr 5 (.tm 31)), o 33 (.load false 1 (.tm 32)), ⟨(some 29), (.callv (.tm 25) [(.tm 28)]), none⟩, o 35 (.faddr 0 (.tm 1)), o 36 (.faddr 5 (.tm 35)), ⟨(some 34), (.callv (.tm 30) [(.tm 33)]), none⟩, oN (.store 1 (.tm 36) (.tm 29)), o 37 (.faddr 7 (.tm 1)), o 38 (.faddr 5 (.tm 37)), oN (.store 1 (.tm 38) (.tm 34))]
abbrev r_law18_LinkConfigs_9 : List COp := [o 40 (.load true 15 (.tm 1)), oC 41 n_law18_Config_Own [(.tm 40)], oC 42 n_link_New [(.tm 41)], o 39 (.mv (.tm 42)), o 43 (.extract (.tm 39) 0), o 44 (.extract (.tm 39) 1), o 4 (.mv (.tm 43)), o 5 (.mv (.tm 44))]
abbrev r_law18_LinkConfigs_10 : List COp := [o 45 (.faddr 0 (.tm 1)), o 46 (.load true 7 (.tm 45)), oC 47 n_ref16_Check [(.tm 46)], o 48 (.mv (.tm 47)), ⟨(some 49), (.op (.faddr 7 (.tm 1))), (some (48, true))⟩, ⟨(some 50), (.op (.load true 7 (.tm 49))), (some (48, true))⟩, ⟨(some 51), (.callf n_ref16_Check [(.tm 50)]), (some (48, true))⟩, o 52 (.pick (.tm 48) (.tm 51) (.k (.b false))), o 53 (.mv (.tm 52)), ⟨(some 54), (.op (.faddr 0 (.tm 1))), (some (53, true))⟩, ⟨(some 55), (.op (.faddr 5 (.tm 54))), (some (53, true))⟩, ⟨(some 56), (.op (.load false 1 (.tm 55))), (some (53, true))⟩, ⟨(some 57), (.op (.faddr 7 (.tm 1))), (some (53, true))⟩, ⟨(some 58), (.op (.faddr 5 (.tm 57))), (some (53, true))⟩, ⟨(some 59), (.op (.load false 1 (.tm 58))), (some (53, true))⟩, ⟨(some 60), (.op (.bin .eql (.tm 56) (.tm 59))), (some (53, true))⟩, o 61 (.pick (.tm 53) (.tm 60) (.k (.b false))), o 62 (.mv (.tm 61)), ⟨(some 63), (.op (.faddr 14 (.tm 1))), (some (62, true))⟩, ⟨(some 64), (.op (.load false 1 (.tm 63))), (some (62, true))⟩, ⟨(some 65), (.op (.bin .geq (.tm 64) (.k (.i .i64 1)))), (some (62, true))⟩, o 66 (.pick (.tm 62) (.tm 65) (.k (.b false))), o 67 (.mv (.tm 66)), ⟨(some 68), (.op (.faddr 14 (.tm 1))), (some (67, true))⟩, ⟨(some 69), (.op (.load false 1 (.tm 68))), (some (67, true))⟩, ⟨(some 70), (.op (.bin .leq (.tm 69) (.k (.i .i64 256)))), (some (67, true))⟩, o 71 (.pick (.tm 67) (.tm 70) (.k (.b false))), o 6 (.mv (.tm 71))]
abbrev r_law18_LinkConfigs_11 : List COp := [o 72 (.mv (.tm 5)), o 73 (.bin .eql (.tm 72) (.k (.i .i64 0))), o 74 (.mv (.tm 6)), o 75 (.eq false .bool (.tm 73) (.tm 74)), o 76 (.mv (.tm 75)), ⟨(some 77), (.op (.mv (.tm 4))), (some (76, true))⟩, ⟨(some 78), (.op (.eq true .ptr (.tm 77) (.k (.p none)))), (some (76, true))⟩, ⟨(some 79), (.op (.mv (.tm 6))), (some (76, true))⟩, ⟨(some 80), (.op (.eq false .bool (.tm 78) (.tm 79))), (some (76, true))⟩, o 81 (.pick (.tm 76) (.tm 80) (.k (.b false))), o 82 (.mv (.tm 81)), ⟨(some 83), (.op (.load true 15 (.tm 1))), (some (82, true))⟩, ⟨(some 84), (.callf n_law18_Config_Own [(.tm 83)]), (some (82, true))⟩, ⟨(some 85), (.callf n_link_Config_Check [(.tm 84)]), (some (82, true))⟩, ⟨(some 86), (.op (.mv (.tm 5))), (some (82, true))⟩, ⟨(some 87), (.op (.bin .eql (.tm 85) (.tm 86))), (some (82, true))⟩, o 88 (.pick (.tm 82) (.tm 87) (.k (.b false))), o 89 (.mv (.tm 88)), ⟨(some 90), (.op (.mv (.tm 6))), (some (89, true))⟩, ⟨(some 91), (.op (.mv (.tm 90))), (some (89, true))⟩, ⟨(some 92), (.op (.mv (.tm 5))), (some (91, false))⟩, ⟨(some 93), (.op (.bin .eql (.tm 92) (.k (.i .i64 1)))), (some (91, false))⟩, ⟨(some 94), (.op (.pick (.tm 91) (.k (.b true)) (.tm 93))), (some (89, true))⟩, o 95 (.pick (.tm 89) (.tm 94) (.k (.b false))), o 2 (.mv (.tm 95))]
def b_law18_LinkConfigs : C := (.seq (.reg r_law18_LinkConfigs_0) (.seq (.seq (.reg r_law18_LinkConfigs_1) (.cond (.tm 8) (.seq (.reg r_law18_LinkConfigs_2) .ret) .skip)) (.seq (.seq (.reg r_law18_LinkConfigs_3) (.cond (.tm 13) (.reg r_law18_LinkConfigs_4) .skip)) (.seq (.seq (.reg r_law18_LinkConfigs_5) (.cond (.tm 21) (.reg r_law18_LinkConfigs_6) .skip)) (.seq (.reg r_law18_LinkConfigs_7) (.seq (.draw r_law18_LinkConfigs_8 [(7, [9])] []) (.seq (.reg r_law18_LinkConfigs_9) (.seq (.reg r_law18_LinkConfigs_10) (.seq (.reg r_law18_LinkConfigs_11) .ret)))))))))
abbrev c_law18_LinkConfigs : CF := ⟨96, [(.tm 2)], b_law18_LinkConfigs⟩
/-! polliwog/polliwoglaw18.awake -/
abbrev r_law18_awake_0 : List COp := [o 0 (.mv (.k (.b false)))]
abbrev r_law18_awake_1 : List COp := [o 6 (.build [(.i .i64 0), (.i .i64 0), (.i .i64 0), (.i .i64 0), (.i .i64 0), (.i .i64 0), (.sl none 0 (some 0) 0), (.i .i64 0), (.i .i64 0), (.i .i64 0), (.i .i64 0), (.i .i64 0), (.i .i64 0), (.sl none 0 (some 0) 0), (.i .i64 0)] [(14, 1, (.k (.i .i64 3)))]), oC 7 n_law18_Start [(.tm 6)], o 5 (.mv (.tm 7)), o 8 (.extract (.tm 5) 0), o 9 (.extract (.tm 5) 1), o 2 (.alloc [(.sl none 0 (some 0) 0), (.sl none 0 (some 0) 0), (.i .i64 0)] 49), o 1 (.mv (.tm 8)), oN (.store 3 (.tm 2) (.tm 9))]
abbrev r_law18_awake_2 : List COp := [o 10 (.mv (.tm 1)), o 11 (.eq false .ptr (.tm 10) (.k (.p none))), o 12 (.mv (.tm 11)), ⟨(some 13), (.op (.mv (.tm 1))), (some (12, false))⟩, ⟨(some 14), (.callf n_link_Link_Quiet [(.tm 13)]), (some (12, false))⟩, ⟨(some 15), (.op (.un .not (.tm 14))), (some (12, false))⟩, o 16 (.pick (.tm 12) (.k (.b true)) (.tm 15))]
abbrev r_law18_awake_3 : List COp := [o 0 (.mv (.k (.b false)))]
abbrev r_law18_awake_4 : List COp := [o 18 (.mv (.tm 1)), o 19 (.build [(.i .i64 0), (.s []), (.i .i64 0)] [(0, 1, (.k (.i .i64 1)))]), oC 20 n_link_Link_Request [(.tm 18), (.k (.i .i64 0)), (.tm 19)], o 17 (.mv (.tm 20)), o 21 (.extract (.tm 17) 0), o 22 (.extract (.tm 17) 1), o 3 (.mv (.tm 21)), o 4 (.mv (.tm 22))]
abbrev r_law18_awake_5 : List COp := [o 23 (.mv (.tm 4)), o 24 (.bin .eql (.tm 23) (.k (.i .i64 0))), o 25 (.mv (.tm 24)), ⟨(some 26), (.op (.mv (.tm 3))), (some (25, true))⟩, ⟨(some 27), (.op (.len .slice (.tm 26))), (some (25, true))⟩, ⟨(some 28), (.op (.bin .eql (.tm 27) (.k (.i .i64 2)))), (some (25, true))⟩, o 29 (.pick (.tm 25) (.tm 28) (.k (.b false))), o 30 (.mv (.tm 29)), ⟨(some 31), (.op (.mv (.tm 3))), (some (30, true))⟩, ⟨(some 32), (.op (.iaddrL 18 (.tm 31) (.k (.i .i64 0)))), (some (30, true))⟩, ⟨(some 33), (.op (.faddr 1 (.tm 32))), (some (30, true))⟩, ⟨(some 34), (.op (.load false 1 (.tm 33))), (some (30, true))⟩, ⟨(some 35), (.op (.bin .eql (.tm 34) (.k (.i .i64 6)))), (some (30, true))⟩, o 36 (.pick (.tm 30) (.tm 35) (.k (.b false))), o 37 (.mv (.tm 36)), ⟨(some 38), (.op (.mv (.tm 3))), (some (37, true))⟩, ⟨(some 39), (.op (.iaddrL 18 (.tm 38) (.k (.i .i64 1)))), (some (37, true))⟩, ⟨(some 40), (.op (.faddr 1 (.tm 39))), (some (37, true))⟩, ⟨(some 41), (.op (.load false 1 (.tm 40))), (some (37, true))⟩, ⟨(some 42), (.op (.bin .eql (.tm 41) (.k (.i .i64 1)))), (some (37, true))⟩, o 43 (.pick (.tm 37) (.tm 42) (.k (.b false))), o 44 (.mv (.tm 43)), ⟨(some 45), (.op (.mv (.tm 3))), (some (44, true))⟩, ⟨(some 46), (.op (.iaddrL 18 (.tm 45) (.k (.i .i64 1)))), (some (44, true))⟩, ⟨(some 47), (.op (.faddr 2 (.tm 46))), (some (44, true))⟩, ⟨(some 48), (.op (.faddr 0 (.tm 47))), (some (44, true))⟩, ⟨(some 49), (.op (.load false 1 (.tm 48))), (some (44, true))⟩, ⟨(some 50), (.op (.bin .eql (.tm 49) (.k (.i .i64 1)))), (some (44, true))⟩, o 51 (.pick (.tm 44) (.tm 50) (.k (.b false))), o 52 (.mv (.tm 51)), ⟨(some 53), (.op (.mv (.tm 1))), (some (52, true))⟩, ⟨(some 54), (.callf n_link_Link_Pipe [(.tm 53), (.k (.i .i64 1))]), (some (52, true))⟩, ⟨(some 55), (.op (.eq true .ptr (.tm 54) (.k (.p none)))), (some (52, true))⟩, o 56 (.pick (.tm 52) (.tm 55) (.k (.b false))), o 57 (.mv (.tm 56)), ⟨(some 58), (.op (.mv (.tm 1))), (some (57, true))⟩, ⟨(some 59), (.callf n_link_Link_Pipe [(.tm 58), (.k (.i .i64 1))]), (some (57, true))⟩, ⟨(some 60), (.op (.nilck (.tm 59))), (some (57, true))⟩, ⟨(some 61), (.op (.faddr 0 (.tm 60))), (some (57, true))⟩, ⟨(some 62), (.op (.load false 1 (.tm 61))), (some (57, true))⟩, ⟨(some 63), (.callf n_ring_Ring_string_Len [(.tm 62)]), (some (57, true))⟩, ⟨(some 64), (.op (.bin .eql (.tm 63) (.k (.i .i64 1)))), (some (57, true))⟩, o 65 (.pick (.tm 57) (.tm 64) (.k (.b false))), o 66 (.mv (.tm 65)), ⟨(some 67), (.op (.mv (.tm 1))), (some (66, true))⟩, ⟨(some 68), (.callf n_link_Link_Node [(.tm 67), (.k (.i .i64 0))]), (some (66, true))⟩, ⟨(some 69), (.op (.eq true .ptr (.tm 68) (.k (.p none)))), (some (66, true))⟩, o 70 (.pick (.tm 66) (.tm 69) (.k (.b false))), o 71 (.mv (.tm 70)), ⟨(some 72), (.op (.mv (.tm 1))), (some (71, true))⟩, ⟨(some 73), (.callf n_link_Link_Node [(.tm 72), (.k (.i .i64 2))]), (some (71, true))⟩, ⟨(some 74), (.op (.eq false .ptr (.tm 73) (.k (.p none)))), (some (71, true))⟩, o 75 (.pick (.tm 71) (.tm 74) (.k (.b false))), o 0 (.mv (.tm 75))]
def b_law18_awake : C := (.seq (.reg r_law18_awake_0) (.seq (.reg r_law18_awake_1) (.seq (.seq (.reg r_law18_awake_2) (.cond (.tm 16) (.seq (.reg r_law18_awake_3) .ret) .skip)) (.seq (.reg r_law18_awake_4) (.seq (.reg r_law18_awake_5) .ret)))))
abbrev c_law18_awake : CF := ⟨76, [(.tm 0)], b_law18_awake⟩
/-! polliwog/polliwoglaw18.LinkConfigs$1 -/
abbrev r_law18_LinkConfigs_1_0 : List COp := [o 2 (.mv (.k (.i .i64 0)))]
abbrev r_law18_LinkConfigs_1_1 : List COp := [o 3 (.mv (.tm 0)), o 4 (.mxmn false [(.tm 3), (.k (.i .i64 16777215))]), o 5 (.mxmn true [(.k (.i .i64 0)), (.tm 4)]), o 2 (.mv (.tm 5))]
def b_law18_LinkConfigs_1 : C := (.seq (.reg r_law18_LinkConfigs_1_0) (.seq (.reg r_law18_LinkConfigs_1_1) .ret))
abbrev c_law18_LinkConfigs_1 : CF := ⟨6, [(.tm 2)], b_law18_LinkConfigs_1⟩
/-! polliwog/link.New -/
abbrev r_link_New_0 : List COp := [o 1 (.box (.tm 0)), o 2 (.mv (.k (.p none))), o 3 (.mv (.k (.i .i64 0)))]
abbrev r_link_New_1 : List COp := [o 10 (.load true 23 (.tm 1)), oC 11 n_link_Config_Check [(.tm 10)], o 4 (.mv (.tm 11))]
abbrev r_link_New_2 : List COp := [o 12 (.mv (.tm 4)), o 13 (.bin .neq (.tm 12) (.k (.i .i64 0)))]
abbrev r_link_New_3 : List COp := [o 14 (.mv (.tm 4)), o 2 (.mv (.k (.p none))), o 3 (.mv (.tm 14))]
abbrev r_link_New_4 : List COp := [oC 15 n_wire_New [], o 16 (.build [(.p none), (.p none), (.p none), (.p none), (.p none)] [(0, 1, (.tm 15))]), o 17 (.box (.tm 16)), o 5 (.mv (.tm 17))]
abbrev r_link_New_5 : List COp := [o 18 (.faddr 0 (.tm 1)), o 19 (.load true 22 (.tm 18)), o 20 (.mv (.k (.i .i64 0)))]
abbrev r_link_New_6 : List COp := [o 21 (.bin .lss (.tm 20) (.k (.i .i64 2)))]
abbrev r_link_New_7 : List COp := [o 22 (.mv (.tm 20)), o 23 (.indexA 2 11 true (.tm 19) (.tm 20)), o 7 (.alloc [(.i .i64 0), (.i .i64 0), (.i .i64 0), (.i .i64 0), (.i .i64 0), (.i .u32 0), (.i .i64 0), (.i .i64 0), (.i .i64 0), (.i .i64 0), (.i .i64 0)] 38), o 6 (.mv (.tm 22)), oN (.store 11 (.tm 7) (.tm 23))]
abbrev r_link_New_8 : List COp := [o 25 (.load true 11 (.tm 7)), oC 26 n_node_New [(.tm 25)], o 24 (.mv (.tm 26)), o 27 (.extract (.tm 24) 0), o 28 (.extract (.tm 24) 1), o 8 (.mv (.tm 27)), o 9 (.mv (.tm 28))]
abbrev r_link_New_9 : List COp := [o 29 (.mv (.tm 9)), o 30 (.bin .neq (.tm 29) (.k (.i .i64 0)))]
abbrev r_link_New_10 : List COp := [o 31 (.mv (.tm 9)), o 2 (.mv (.k (.p none))), o 3 (.mv (.tm 31))]
abbrev r_link_New_11 : List COp := [o 32 (.mv (.tm 5)), o 33 (.mv (.tm 6)), o 34 (.mv (.tm 8)), o 35 (.faddr 22 (.tm 1)), o 36 (.load false 1 (.tm 35)), o 39 (.nilck (.tm 32)), o 40 (.faddr 1 (.tm 39)), oC 37 n_pipe_New [(.tm 36)], o 38 (.build [(.p none), (.p none)] [(0, 1, (.tm 34)), (1, 1, (.tm 37))]), o 41 (.iaddrA 2 2 (.tm 40) (.tm 33)), oN (.store 2 (.tm 41) (.tm 38))]
abbrev r_link_New_12 : List COp := [o 42 (.bin .add (.tm 20) (.k (.i .i64 1))), o 20 (.mv (.tm 42))]
def l_link_New_0 : C := (.seq (.reg r_link_New_6) (.seq (.cond (.tm 21) .skip (.exit 0)) (.seq (.blk 1 (.seq (.reg r_link_New_7) (.seq (.reg r_link_New_8) (.seq (.seq (.reg r_link_New_9) (.cond (.tm 30) (.seq (.reg r_link_New_10) .ret) .skip)) (.draw r_link_New_11 [] []))))) (.reg r_link_New_12))))
abbrev r_link_New_13 : List COp := [o 43 (.mv (.tm 5)), o 2 (.mv (.tm 43)), o 3 (.mv (.k (.i .i64 0)))]
def b_link_New : C := (.seq (.reg r_link_New_0) (.seq (.seq (.reg r_link_New_1) (.seq (.reg r_link_New_2) (.cond (.tm 13) (.seq (.reg r_link_New_3) .ret) .skip))) (.seq (.reg r_link_New_4) (.seq (.seq (.reg r_link_New_5) (.blk 0 (.loop l_link_New_0))) (.seq (.reg r_link_New_13) .ret)))))
abbrev c_link_New : CF := ⟨44, [(.tm 2), (.tm 3)], b_link_New⟩
/-! (polliwog/polliwoglaw18.Config).Own -/
abbrev r_law18_Config_Own_0 : List COp := [o 1 (.box (.tm 0)), o 2 (.alloc [(.i .i64 0), (.i .i64 0), (.i .i64 0), (.i .i64 0), (.i .i64 0), (.i .u32 0), (.i .i64 0), (.i .i64 0), (.i .i64 0), (.i .i64 0), (.i .i64 0), (.i .i64 0), (.i .i64 0), (.i .i64 0), (.i .i64 0), (.i .i64 0), (.i .u32 0), (.i .i64 0), (.i .i64 0), (.i .i64 0), (.i .i64 0), (.i .i64 0), (.i .i64 0)] 41)]
abbrev r_law18_Config_Own_1 : List COp := [o 3 (.faddr 0 (.tm 1)), o 4 (.load true 7 (.tm 3)), o 6 (.faddr 7 (.tm 1)), o 7 (.load true 7 (.tm 6)), o 10 (.faddr 14 (.tm 1)), o 11 (.load false 1 (.tm 10)), oC 5 n_law16_Own [(.tm 4)], oC 8 n_law16_Own [(.tm 7)], o 9 (.build [(.i .i64 0), (.i .i64 0), (.i .i64 0), (.i .i64 0), (.i .i64 0), (.i .u32 0), (.i .i64 0), (.i .i64 0), (.i .i64 0), (.i .i64 0), (.i .i64 0), (.i .i64 0), (.i .i64 0), (.i .i64 0), (.i .i64 0), (.i .i64 0), (.i .u32 0), (.i .i64 0), (.i .i64 0), (.i .i64 0), (.i .i64 0), (.i .i64 0)] [(0, 11, (.tm 5)), (11, 11, (.tm 8))]), o 12 (.build [(.i .i64 0), (.i .i64 0), (.i .i64 0), (.i .i64 0), (.i .i64 0), (.i .u32 0), (.i .i64 0), (.i .i64 0), (.i .i64 0), (.i .i64 0), (.i .i64 0), (.i .i64 0), (.i .i64 0), (.i .i64 0), (.i .i64 0), (.i .i64 0), (.i .u32 0), (.i .i64 0), (.i .i64 0), (.i .i64 0), (.i .i64 0), (.i .i64 0), (.i .i64 0)] [(0, 22, (.tm 9)), (22, 1, (.tm 11))]), oN (.store 23 (.tm 2) (.tm 12))]
def b_law18_Config_Own : C := (.seq (.reg r_law18_Config_Own_0) (.seq (.draw r_law18_Config_Own_1 [(3, [7]), (5, [7, 8])] []) .ret))
abbrev c_law18_Config_Own : CF := ⟨13, [(.cell 2 true 23)], b_law18_Config_Own⟩
/-! polliwog/polliwogref16.Check -/
abbrev r_ref16_Check_0 : List COp := [o 1 (.box (.tm 0)), o 2 (.mv (.k (.b false)))]
abbrev r_ref16_Check_1 : List COp := [o 3 (.faddr 0 (.tm 1)), o 4 (.load false 1 (.tm 3)), o 5 (.bin .lss (.tm 4) (.k (.i .i64 1))), o 6 (.mv (.tm 5)), ⟨(some 7), (.op (.faddr 0 (.tm 1))), (some (6, false))⟩, ⟨(some 8), (.op (.load false 1 (.tm 7))), (some (6, false))⟩, ⟨(some 9), (.op (.bin .gtr (.tm 8) (.k (.i .i64 16)))), (some (6, false))⟩, o 10 (.pick (.tm 6) (.k (.b true)) (.tm 9)), o 11 (.mv (.tm 10)), ⟨(some 12), (.op (.faddr 1 (.tm 1))), (some (11, false))⟩, ⟨(some 13), (.op (.load false 1 (.tm 12))), (some (11, false))⟩, ⟨(some 14), (.op (.bin .lss (.tm 13) (.k (.i .i64 1)))), (some (11, false))⟩, o 15 (.pick (.tm 11) (.k (.b true)) (.tm 14)), o 16 (.mv (.tm 15)), ⟨(some 17), (.op (.faddr 1 (.tm 1))), (some (16, false))⟩, ⟨(some 18), (.op (.load false 1 (.tm 17))), (some (16, false))⟩, ⟨(some 19), (.op (.bin .gtr (.tm 18) (.k (.i .i64 64)))), (some (16, false))⟩, o 20 (.pick (.tm 16) (.k (.b true)) (.tm 19)), o 21 (.mv (.tm 20)), ⟨(some 22), (.op (.faddr 2 (.tm 1))), (some (21, false))⟩, ⟨(some 23), (.op (.load false 1 (.tm 22))), (some (21, false))⟩, ⟨(some 24), (.op (.bin .lss (.tm 23) (.k (.i .i64 1)))), (some (21, false))⟩, o 25 (.pick (.tm 21) (.k (.b true)) (.tm 24)), o 26 (.mv (.tm 25)), ⟨(some 27), (.op (.faddr 2 (.tm 1))), (some (26, false))⟩, ⟨(some 28), (.op (.load false 1 (.tm 27))), (some (26, false))⟩, ⟨(some 29), (.op (.bin .gtr (.tm 28) (.k (.i .i64 256)))), (some (26, false))⟩, o 30 (.pick (.tm 26) (.k (.b true)) (.tm 29)), o 31 (.mv (.tm 30)), ⟨(some 32), (.op (.faddr 3 (.tm 1))), (some (31, false))⟩, ⟨(some 33), (.op (.load false 1 (.tm 32))), (some (31, false))⟩, ⟨(some 34), (.op (.bin .lss (.tm 33) (.k (.i .i64 1)))), (some (31, false))⟩, o 35 (.pick (.tm 31) (.k (.b true)) (.tm 34)), o 36 (.mv (.tm 35)), ⟨(some 37), (.op (.faddr 3 (.tm 1))), (some (36, false))⟩, ⟨(some 38), (.op (.load false 1 (.tm 37))), (some (36, false))⟩, ⟨(some 39), (.op (.bin .gtr (.tm 38) (.k (.i .i64 64)))), (some (36, false))⟩, o 40 (.pick (.tm 36) (.k (.b true)) (.tm 39)), o 41 (.mv (.tm 40)), ⟨(some 42), (.op (.faddr 4 (.tm 1))), (some (41, false))⟩, ⟨(some 43), (.op (.load false 1 (.tm 42))), (some (41, false))⟩, ⟨(some 44), (.op (.bin .lss (.tm 43) (.k (.i .i64 1)))), (some (41, false))⟩, o 45 (.pick (.tm 41) (.k (.b true)) (.tm 44)), o 46 (.mv (.tm 45)), ⟨(some 47), (.op (.faddr 4 (.tm 1))), (some (46, false))⟩, ⟨(some 48), (.op (.load false 1 (.tm 47))), (some (46, false))⟩, ⟨(some 49), (.op (.bin .gtr (.tm 48) (.k (.i .i64 256)))), (some (46, false))⟩, o 50 (.pick (.tm 46) (.k (.b true)) (.tm 49)), o 51 (.mv (.tm 50)), ⟨(some 52), (.op (.faddr 5 (.tm 1))), (some (51, false))⟩, ⟨(some 53), (.op (.load false 1 (.tm 52))), (some (51, false))⟩, ⟨(some 54), (.op (.bin .lss (.tm 53) (.k (.i .i64 0)))), (some (51, false))⟩, o 55 (.pick (.tm 51) (.k (.b true)) (.tm 54)), o 56 (.mv (.tm 55)), ⟨(some 57), (.op (.faddr 5 (.tm 1))), (some (56, false))⟩, ⟨(some 58), (.op (.load false 1 (.tm 57))), (some (56, false))⟩, ⟨(some 59), (.op (.bin .gtr (.tm 58) (.k (.i .i64 16777215)))), (some (56, false))⟩, o 60 (.pick (.tm 56) (.k (.b true)) (.tm 59))]
abbrev r_ref16_Check_2 : List COp := [o 2 (.mv (.k (.b false)))]
abbrev r_ref16_Check_3 : List COp := [o 61 (.faddr 6 (.tm 1)), o 62 (.load false 1 (.tm 61)), oC 63 n_ref15_Check [(.tm 62)], o 2 (.mv (.tm 63))]
def b_ref16_Check : C := (.seq (.reg r_ref16_Check_0) (.seq (.seq (.reg r_ref16_Check_1) (.cond (.tm 60) (.seq (.reg r_ref16_Check_2) .ret) .skip)) (.seq (.reg r_ref16_Check_3) .ret)))
abbrev c_ref16_Check : CF := ⟨64, [(.tm 2)], b_ref16_Check⟩
/-! (polliwog/link.Config).Check -/
abbrev r_link_Config_Check_0 : List COp := [o 1 (.box (.tm 0)), o 2 (.mv (.k (.i .i64 0)))]
abbrev r_link_Config_Check_1 : List COp := [o 6 (.faddr 0 (.tm 1)), o 7 (.load true 22 (.tm 6)), o 8 (.mv (.k (.i .i64 0)))]
abbrev r_link_Config_Check_2 : List COp := [o 9 (.bin .lss (.tm 8) (.k (.i .i64 2)))]
abbrev r_link_Config_Check_3 : List COp := [o 10 (.indexA 2 11 true (.tm 7) (.tm 8)), o 4 (.alloc [(.i .i64 0), (.i .i64 0), (.i .i64 0), (.i .i64 0), (.i .i64 0), (.i .u32 0), (.i .i64 0), (.i .i64 0), (.i .i64 0), (.i .i64 0), (.i .i64 0)] 38), oN (.store 11 (.tm 4) (.tm 10))]
abbrev r_link_Config_Check_4 : List COp := [o 11 (.load true 11 (.tm 4)), oC 12 n_node_Config_Check [(.tm 11)], o 5 (.mv (.tm 12))]
abbrev r_link_Config_Check_5 : List COp := [o 13 (.mv (.tm 5)), o 14 (.bin .neq (.tm 13) (.k (.i .i64 0)))]
abbrev r_link_Config_Check_6 : List COp := [o 15 (.mv (.tm 5)), o 2 (.mv (.tm 15))]
abbrev r_link_Config_Check_7 : List COp := [o 16 (.bin .add (.tm 8) (.k (.i .i64 1))), o 8 (.mv (.tm 16))]
def l_link_Config_Check_0 : C := (.seq (.reg r_link_Config_Check_2) (.seq (.cond (.tm 9) .skip (.exit 0)) (.seq (.blk 1 (.seq (.reg r_link_Config_Check_3) (.seq (.reg r_link_Config_Check_4) (.seq (.reg r_link_Config_Check_5) (.cond (.tm 14) (.seq (.reg r_link_Config_Check_6) .ret) .skip))))) (.reg r_link_Config_Check_7))))
abbrev r_link_Config_Check_8 : List COp := [o 17 (.faddr 0 (.tm 1)), o 18 (.iaddrA 2 11 (.tm 17) (.k (.i .i64 0))), o 19 (.faddr 5 (.tm 18)), o 20 (.load false 1 (.tm 19)), o 21 (.faddr 0 (.tm 1)), o 22 (.iaddrA 2 11 (.tm 21) (.k (.i .i64 1))), o 23 (.faddr 5 (.tm 22)), o 24 (.load false 1 (.tm 23)), o 25 (.bin .neq (.tm 20) (.tm 24)), o 26 (.mv (.tm 25)), ⟨(some 27), (.op (.faddr 22 (.tm 1))), (some (26, false))⟩, ⟨(some 28), (.op (.load false 1 (.tm 27))), (some (26, false))⟩, ⟨(some 29), (.op (.bin .lss (.tm 28) (.k (.i .i64 1)))), (some (26, false))⟩, o 30 (.pick (.tm 26) (.k (.b true)) (.tm 29)), o 31 (.mv (.tm 30)), ⟨(some 32), (.op (.faddr 22 (.tm 1))), (some (31, false))⟩, ⟨(some 33), (.op (.load false 1 (.tm 32))), (some (31, false))⟩, ⟨(some 34), (.op (.bin .gtr (.tm 33) (.k (.i .i64 256)))), (some (31, false))⟩, o 35 (.pick (.tm 31) (.k (.b true)) (.tm 34))]
abbrev r_link_Config_Check_9 : List COp := [o 2 (.mv (.k (.i .i64 1)))]
abbrev r_link_Config_Check_10 : List COp := [o 2 (.mv (.k (.i .i64 0)))]
def b_link_Config_Check : C := (.seq (.reg r_link_Config_Check_0) (.seq (.seq (.reg r_link_Config_Check_1) (.blk 0 (.loop l_link_Config_Check_0))) (.seq (.seq (.reg r_link_Config_Check_8) (.cond (.tm 35) (.seq (.reg r_link_Config_Check_9) .ret) .skip)) (.seq (.reg r_link_Config_Check_10) .ret))))
abbrev c_link_Config_Check : CF := ⟨36, [(.tm 2)], b_link_Config_Check⟩
/-! polliwog/polliwoglaw18.Start -/
abbrev r_law18_Start_0 : List COp := [o 1 (.box (.tm 0)), o 2 (.mv (.k (.p none))), o 3 (.alloc [(.sl none 0 (some 0) 0), (.sl none 0 (some 0) 0), (.i .i64 0)] 49)]
abbrev r_law18_Start_1 : List COp := [o 6 (.load true 15 (.tm 1)), oC 7 n_law18_Config_Right [(.tm 6)], oN (.store 15 (.tm 1) (.tm 7))]
abbrev r_law18_Start_2 : List COp := [o 9 (.load true 15 (.tm 1)), oC 10 n_law18_Config_Own [(.tm 9)], oC 11 n_link_New [(.tm 10)], o 8 (.mv (.tm 11)), o 12 (.extract (.tm 8) 0), o 13 (.extract (.tm 8) 1), o 4 (.mv (.tm 12)), o 5 (.mv (.tm 13))]
abbrev r_law18_Start_3 : List COp := [o 14 (.mv (.tm 5)), o 15 (.bin .neq (.tm 14) (.k (.i .i64 0)))]
abbrev r_law18_Start_4 : List COp := [o 16 (.build [(.sl none 0 (some 0) 0), (.sl none 0 (some 0) 0), (.i .i64 0)] []), o 2 (.mv (.k (.p none))), oN (.store 3 (.tm 3) (.tm 16))]
abbrev r_law18_Start_5 : List COp := [o 17 (.mv (.tm 4)), o 18 (.faddr 0 (.tm 1)), o 19 (.load true 7 (.tm 18)), o 20 (.faddr 7 (.tm 1)), o 21 (.load true 7 (.tm 20)), o 22 (.faddr 14 (.tm 1)), o 23 (.load false 1 (.tm 22)), oC 24 n_ref18_New [(.tm 19), (.tm 21), (.tm 23)], o 2 (.mv (.tm 17)), oN (.store 3 (.tm 3) (.tm 24))]
def b_law18_Start : C := (.seq (.reg r_law18_Start_0) (.seq (.reg r_law18_Start_1) (.seq (.reg r_law18_Start_2) (.seq (.seq (.reg r_law18_Start_3) (.cond (.tm 15) (.seq (.reg r_law18_Start_4) .ret) .skip)) (.seq (.reg r_law18_Start_5) .ret)))))
abbrev c_law18_Start : CF := ⟨25, [(.tm 2), (.cell 3 true 3)], b_law18_Start⟩
/-! (*polliwog/link.Link).Quiet -/
abbrev r_link_Link_Quiet_0 : List COp := [o 2 (.mv (.k (.b false)))]
abbrev r_link_Link_Quiet_1 : List COp := [o 5 (.mv (.tm 0)), o 6 (.nilck (.tm 5)), o 7 (.faddr 1 (.tm 6)), o 8 (.load true 4 (.tm 7)), o 9 (.mv (.k (.i .i64 0)))]
abbrev r_link_Link_Quiet_2 : List COp := [o 10 (.bin .lss (.tm 9) (.k (.i .i64 2)))]
abbrev r_link_Link_Quiet_3 : List COp := [o 11 (.indexA 2 2 true (.tm 8) (.tm 9)), o 4 (.alloc [(.p none), (.p none)] 75), oN (.store 2 (.tm 4) (.tm 11))]
abbrev r_link_Link_Quiet_4 : List COp := [o 12 (.faddr 1 (.tm 4)), o 13 (.load false 1 (.tm 12)), o 14 (.nilck (.tm 13)), o 15 (.faddr 0 (.tm 14)), o 16 (.load false 1 (.tm 15)), oC 17 n_ring_Ring_string_Len [(.tm 16)], o 18 (.bin .gtr (.tm 17) (.k (.i .i64 0))), o 19 (.mv (.tm 18)), ⟨(some 20), (.op (.faddr 0 (.tm 4))), (some (19, false))⟩, ⟨(some 21), (.op (.load false 1 (.tm 20))), (some (19, false))⟩, ⟨(some 22), (.callf n_node_Node_Quiet [(.tm 21)]), (some (19, false))⟩, ⟨(some 23), (.op (.un .not (.tm 22))), (some (19, false))⟩, o 24 (.pick (.tm 19) (.k (.b true)) (.tm 23))]
abbrev r_link_Link_Quiet_5 : List COp := [o 2 (.mv (.k (.b false)))]
abbrev r_link_Link_Quiet_6 : List COp := [o 25 (.bin .add (.tm 9) (.k (.i .i64 1))), o 9 (.mv (.tm 25))]
def l_link_Link_Quiet_0 : C := (.seq (.reg r_link_Link_Quiet_2) (.seq (.cond (.tm 10) .skip (.exit 0)) (.seq (.blk 1 (.seq (.reg r_link_Link_Quiet_3) (.seq (.reg r_link_Link_Quiet_4) (.cond (.tm 24) (.seq (.reg r_link_Link_Quiet_5) .ret) .skip)))) (.reg r_link_Link_Quiet_6))))
abbrev r_link_Link_Quiet_7 : List COp := [o 2 (.mv (.k (.b true)))]
def b_link_Link_Quiet : C := (.seq (.reg r_link_Link_Quiet_0) (.seq (.seq (.reg r_link_Link_Quiet_1) (.blk 0 (.loop l_link_Link_Quiet_0))) (.seq (.reg r_link_Link_Quiet_7) .ret)))
abbrev c_link_Link_Quiet : CF := ⟨26, [(.tm 2)], b_link_Link_Quiet⟩
/-! (*polliwog/link.Link).Request -/
abbrev r_link_Link_Request_0 : List COp := [o 5 (.box (.tm 2)), o 6 (.mv (.k (.sl none 0 (some 0) 0))), o 7 (.mv (.k (.i .i64 0)))]
abbrev r_link_Link_Request_1 : List COp := [o 10 (.mv (.tm 1)), oC 11 n_link_is [(.tm 10)], o 12 (.un .not (.tm 11))]
abbrev r_link_Link_Request_2 : List COp := [o 6 (.mv (.k (.sl none 0 (some 0) 0))), o 7 (.mv (.k (.i .i64 1)))]
abbrev r_link_Link_Request_3 : List COp := [o 14 (.mv (.tm 0)), o 15 (.mv (.tm 1)), o 16 (.nilck (.tm 14)), o 17 (.faddr 1 (.tm 16)), o 18 (.iaddrA 2 2 (.tm 17) (.tm 15)), o 19 (.faddr 0 (.tm 18)), o 20 (.load false 1 (.tm 19)), o 21 (.load true 3 (.tm 5)), oC 22 n_node_Node_Request [(.tm 20), (.tm 21)], o 13 (.mv (.tm 22)), o 23 (.extract (.tm 13) 0), o 24 (.extract (.tm 13) 1), o 8 (.mv (.tm 23)), o 9 (.mv (.tm 24))]
abbrev r_link_Link_Request_4 : List COp := [o 25 (.mv (.tm 9)), o 26 (.bin .neq (.tm 25) (.k (.i .i64 0)))]
abbrev r_link_Link_Request_5 : List COp := [o 27 (.mv (.tm 9)), o 6 (.mv (.k (.sl none 0 (some 0) 0))), o 7 (.mv (.tm 27))]
abbrev r_link_Link_Request_6 : List COp := [o 28 (.mv (.tm 0)), o 29 (.mv (.tm 1)), o 30 (.load true 3 (.tm 5)), o 31 (.build [(.i .i64 0), (.i .i64 0), (.i .i64 0), (.i .i64 0), (.i .u32 0), (.i .u32 0), (.i .u32 0), (.sl none 0 (some 0) 0), (.b false), (.s []), (.i .i64 0), (.s []), (.b false), (.i .u8 0), (.i .i64 0), (.i .i64 0), (.s []), (.i .i64 0)] [(0, 1, (.tm 29)), (1, 1, (.k (.i .i64 6))), (15, 3, (.tm 30))]), o 32 (.bslice 18 [(.i .i64 0), (.i .i64 0), (.i .i64 0), (.i .i64 0), (.i .u32 0), (.i .u32 0), (.i .u32 0), (.sl none 0 (some 0) 0), (.b false), (.s []), (.i .i64 0), (.s []), (.b false), (.i .u8 0), (.i .i64 0), (.i .i64 0), (.s []), (.i .i64 0)] 1 [(0, (.tm 31))]), o 33 (.mv (.tm 1)), o 34 (.mv (.tm 8)), oC 35 n_link_told [(.tm 32), (.tm 33), (.tm 34)], oC 36 n_link_Link_pump [(.tm 28), (.tm 35)], o 6 (.mv (.tm 36)), o 7 (.mv (.k (.i .i64 0)))]
def b_link_Link_Request : C := (.seq (.reg r_link_Link_Request_0) (.seq (.seq (.reg r_link_Link_Request_1) (.cond (.tm 12) (.seq (.reg r_link_Link_Request_2) .ret) .skip)) (.seq (.draw r_link_Link_Request_3 [] []) (.seq (.seq (.reg r_link_Link_Request_4) (.cond (.tm 26) (.seq (.reg r_link_Link_Request_5) .ret) .skip)) (.seq (.reg r_link_Link_Request_6) .ret)))))
abbrev c_link_Link_Request : CF := ⟨37, [(.tm 6), (.tm 7)], b_link_Link_Request⟩
/-! (*polliwog/link.Link).Pipe -/
abbrev r_link_Link_Pipe_0 : List COp := [o 4 (.mv (.k (.p none)))]
abbrev r_link_Link_Pipe_1 : List COp := [o 5 (.mv (.tm 1)), oC 6 n_link_is [(.tm 5)], o 7 (.un .not (.tm 6))]
abbrev r_link_Link_Pipe_2 : List COp := [o 4 (.mv (.k (.p none)))]
abbrev r_link_Link_Pipe_3 : List COp := [o 8 (.mv (.tm 0)), o 9 (.mv (.tm 1)), o 10 (.nilck (.tm 8)), o 11 (.faddr 1 (.tm 10)), o 12 (.iaddrA 2 2 (.tm 11) (.tm 9)), o 13 (.faddr 1 (.tm 12)), o 14 (.load false 1 (.tm 13)), o 4 (.mv (.tm 14))]
def b_link_Link_Pipe : C := (.seq (.reg r_link_Link_Pipe_0) (.seq (.seq (.reg r_link_Link_Pipe_1) (.cond (.tm 7) (.seq (.reg r_link_Link_Pipe_2) .ret) .skip)) (.seq (.reg r_link_Link_Pipe_3) .ret)))
abbrev c_link_Link_Pipe : CF := ⟨15, [(.tm 4)], b_link_Link_Pipe⟩
/-! (*polliwog/ring.Ring[string]).Len -/
abbrev r_ring_Ring_string_Len_0 : List COp := [o 2 (.mv (.k (.i .i64 0)))]
abbrev r_ring_Ring_string_Len_1 : List COp := [o 3 (.mv (.tm 0)), o 4 (.nilck (.tm 3)), o 5 (.faddr 2 (.tm 4)), o 6 (.load false 1 (.tm 5)), o 2 (.mv (.tm 6))]
def b_ring_Ring_string_Len : C := (.seq (.reg r_ring_Ring_string_Len_0) (.seq (.reg r_ring_Ring_string_Len_1) .ret))
abbrev c_ring_Ring_string_Len : CF := ⟨7, [(.tm 2)], b_ring_Ring_string_Len⟩
/-! (*polliwog/link.Link).Node -/
abbrev r_link_Link_Node_0 : List COp := [o 4 (.mv (.k (.p none)))]
abbrev r_link_Link_Node_1 : List COp := [o 5 (.mv (.tm 1)), oC 6 n_link_is [(.tm 5)], o 7 (.un .not (.tm 6))]
abbrev r_link_Link_Node_2 : List COp := [o 4 (.mv (.k (.p none)))]
abbrev r_link_Link_Node_3 : List COp := [o 8 (.mv (.tm 0)), o 9 (.mv (.tm 1)), o 10 (.nilck (.tm 8)), o 11 (.faddr 1 (.tm 10)), o 12 (.iaddrA 2 2 (.tm 11) (.tm 9)), o 13 (.faddr 0 (.tm 12)), o 14 (.load false 1 (.tm 13)), o 4 (.mv (.tm 14))]
def b_link_Link_Node : C := (.seq (.reg r_link_Link_Node_0) (.seq (.seq (.reg r_link_Link_Node_1) (.cond (.tm 7) (.seq (.reg r_link_Link_Node_2) .ret) .skip)) (.seq (.reg r_link_Link_Node_3) .ret)))
abbrev c_link_Link_Node : CF := ⟨15, [(.tm 4)], b_link_Link_Node⟩
/-! polliwog/wire.New -/
abbrev r_wire_New_0 : List COp := [o 0 (.mv (.k (.p none)))]
abbrev r_wire_New_1 : List COp := [oC 1 n_crc_Make [], o 2 (.build [(.i .u32 0), (.i .u32 0), (.i .u32 0), (.i .u32 0), (.i .u32 0), (.i .u32 0), (.i .u32 0), (.i .u32 0), (.i .u32 0), (.i .u32 0), (.i .u32 0), (.i .u32 0), (.i .u32 0), (.i .u32 0), (.i .u32 0), (.i .u32 0), (.i .u32 0), (.i .u32 0), (.i .u32 0), (.i .u32 0), (.i .u32 0), (.i .u32 0), (.i .u32 0), (.i .u32 0), (.i .u32 0), (.i .u32 0), (.i .u32 0), (.i .u32 0), (.i .u32 0), (.i .u32 0), (.i .u32 0), (.i .u32 0), (.i .u32 0), (.i .u32 0), (.i .u32 0), (.i .u32 0), (.i .u32 0), (.i .u32 0), (.i .u32 0), (.i .u32 0), (.i .u32 0), (.i .u32 0), (.i .u32 0), (.i .u32 0), (.i .u32 0), (.i .u32 0), (.i .u32 0), (.i .u32 0), (.i .u32 0), (.i .u32 0), (.i .u32 0), (.i .u32 0), (.i .u32 0), (.i .u32 0), (.i .u32 0), (.i .u32 0), (.i .u32 0), (.i .u32 0), (.i .u32 0), (.i .u32 0), (.i .u32 0), (.i .u32 0), (.i .u32 0), (.i .u32 0), (.i .u32 0), (.i .u32 0), (.i .u32 0), (.i .u32 0), (.i .u32 0), (.i .u32 0), (.i .u32 0), (.i .u32 0), (.i .u32 0), (.i .u32 0), (.i .u32 0), (.i .u32 0), (.i .u32 0), (.i .u32 0), (.i .u32 0), (.i .u32 0), (.i .u32 0), (.i .u32 0), (.i .u32 0), (.i .u32 0), (.i .u32 0), (.i .u32 0), (.i .u32 0), (.i .u32 0), (.i .u32 0), (.i .u32 0), (.i .u32 0), (.i .u32 0), (.i .u32 0), (.i .u32 0), (.i .u32 0), (.i .u32 0), (.i .u32 0), (.i .u32 0), (.i .u32 0), (.i .u32 0), (.i .u32 0), (.i .u32 0), (.i .u32 0), (.i .u32 0), (.i .u32 0), (.i .u32 0), (.i .u32 0), (.i .u32 0), (.i .u32 0), (.i .u32 0), (.i .u32 0), (.i .u32 0), (.i .u32 0), (.i .u32 0), (.i .u32 0), (.i .u32 0), (.i .u32 0), (.i .u32 0), (.i .u32 0), (.i .u32 0), (.i .u32 0), (.i .u32 0), (.i .u32 0), (.i .u32 0), (.i .u32 0), (.i .u32 0), (.i .u32 0), (.i .u32 0), (.i .u32 0), (.i .u32 0), (.i .u32 0), (.i .u32 0), (.i .u32 0), (.i .u32 0), (.i .u32 0), (.i .u32 0), (.i .u32 0), (.i .u32 0), (.i .u32 0), (.i .u32 0), (.i .u32 0), (.i .u32 0), (.i .u32 0), (.i .u32 0), (.i .u32 0), (.i .u32 0), (.i .u32 0), (.i .u32 0), (.i .u32 0), (.i .u32 0), (.i .u32 0), (.i .u32 0), (.i .u32 0), (.i .u32 0), (.i .u32 0), (.i .u32 0), (.i .u32 0), (.i .u32 0), (.i .u32 0), (.i .u32 0), (.i .u32 0), (.i .u32 0), (.i .u32 0), (.i .u32 0), (.i .u32 0), (.i .u32 0), (.i .u32 0), (.i .u32 0), (.i .u32 0), (.i .u32 0), (.i .u32 0), (.i .u32 0), (.i .u32 0), (.i .u32 0), (.i .u32 0), (.i .u32 0), (.i .u32 0), (.i .u32 0), (.i .u32 0), (.i .u32 0), (.i .u32 0), (.i .u32 0), (.i .u32 0), (.i .u32 0), (.i .u32 0), (.i .u32 0), (.i .u32 0), (.i .u32 0), (.i .u32 0), (.i .u32 0), (.i .u32 0), (.i .u32 0), (.i .u32 0), (.i .u32 0), (.i .u32 0), (.i .u32 0), (.i .u32 0), (.i .u32 0), (.i .u32 0), (.i .u32 0), (.i .u32 0), (.i .u32 0), (.i .u32 0), (.i .u32 0), (.i .u32 0), (.i .u32 0), (.i .u32 0), (.i .u32 0), (.i .u32 0), (.i .u32 0), (.i .u32 0), (.i .u32 0), (.i .u32 0), (.i .u32 0), (.i .u32 0), (.i .u32 0), (.i .u32 0), (.i .u32 0), (.i .u32 0), (.i .u32 0), (.i .u32 0), (.i .u32 0), (.i .u32 0), (.i .u32 0), (.i .u32 0), (.i .u32 0), (.i .u32 0), (.i .u32 0), (.i .u32 0), (.i .u32 0), (.i .u32 0), (.i .u32 0), (.i .u32 0), (.i .u32 0), (.i .u32 0), (.i .u32 0), (.i .u32 0), (.i .u32 0), (.i .u32 0), (.i .u32 0), (.i .u32 0), (.i .u32 0), (.i .u32 0), (.i .u32 0), (.i .u32 0), (.i .u32 0), (.i .u32 0), (.i .u32 0), (.i .u32 0), (.i .u32 0), (.i .u32 0), (.i .u32 0), (.i .u32 0), (.i .u32 0), (.i .u32 0), (.i .u32 0)] [(0, 256, (.tm 1))]), o 3 (.box (.tm 2)), o 0 (.mv (.tm 3))]
def b_wire_New : C := (.seq (.reg r_wire_New_0) (.seq (.reg r_wire_New_1) .ret))
abbrev c_wire_New : CF := ⟨4, [(.tm 0)], b_wire_New⟩
/-! polliwog/node.New -/
abbrev r_node_New_0 : List COp := [o 1 (.box (.tm 0)), o 2 (.mv (.k (.p none))), o 3 (.mv (.k (.i .i64 0)))]
abbrev r_node_New_1 : List COp := [o 7 (.load true 11 (.tm 1)), oC 8 n_node_Config_Check [(.tm 7)], o 4 (.mv (.tm 8))]
abbrev r_node_New_2 : List COp := [o 9 (.mv (.tm 4)), o 10 (.bin .neq (.tm 9) (.k (.i .i64 0)))]
abbrev r_node_New_3 : List COp := [o 11 (.mv (.tm 4)), o 2 (.mv (.k (.p none))), o 3 (.mv (.tm 11))]
abbrev r_node_New_4 : List COp := [o 13 (.faddr 6 (.tm 1)), o 14 (.load true 5 (.tm 13)), oC 15 n_pace_New [(.tm 14)], o 12 (.mv (.tm 15)), o 16 (.extract (.tm 12) 0), o 17 (.extract (.tm 12) 1), o 5 (.mv (.tm 16)), o 6 (.mv (.tm 17))]
abbrev r_node_New_5 : List COp := [o 18 (.mv (.tm 6)), o 19 (.bin .neq (.tm 18) (.k (.i .i64 0)))]
abbrev r_node_New_6 : List COp := [o 20 (.mv (.tm 6)), o 2 (.mv (.k (.p none))), o 3 (.mv (.tm 20))]
abbrev r_node_New_7 : List COp := [o 21 (.load true 11 (.tm 1)), o 22 (.faddr 0 (.tm 1)), o 23 (.load false 1 (.tm 22)), o 24 (.faddr 5 (.tm 1)), o 25 (.load false 1 (.tm 24)), o 26 (.faddr 1 (.tm 1)), o 27 (.load false 1 (.tm 26)), o 31 (.mv (.tm 5)), o 32 (.faddr 3 (.tm 1)), o 33 (.load false 1 (.tm 32)), oC 28 n_seq_Num_Add [(.tm 25), (.tm 27)], o 29 (.build [(.i .i64 0), (.i .u32 0)] [(0, 1, (.tm 23)), (1, 1, (.tm 28))]), oC 30 n_conn_New [(.tm 29)], oC 34 n_ring_New_pdu_PDU [(.tm 33)], o 35 (.build [(.i .i64 0), (.i .i64 0), (.i .i64 0), (.i .i64 0), (.i .i64 0), (.i .u32 0), (.i .i64 0), (.i .i64 0), (.i .i64 0), (.i .i64 0), (.i .i64 0), (.p none), (.p none), (.p none), (.p none), (.sl none 0 (some 0) 0), (.p none), (.b false), (.b false), (.i .u32 0), (.b false), (.sl none 0 (some 0) 0)] [(0, 11, (.tm 21)), (11, 1, (.tm 30)), (12, 1, (.tm 31)), (16, 1, (.tm 34))]), o 36 (.box (.tm 35)), o 2 (.mv (.tm 36)), o 3 (.mv (.k (.i .i64 0)))]
def b_node_New : C := (.seq (.reg r_node_New_0) (.seq (.seq (.reg r_node_New_1) (.seq (.reg r_node_New_2) (.cond (.tm 10) (.seq (.reg r_node_New_3) .ret) .skip))) (.seq (.reg r_node_New_4) (.seq (.seq (.reg r_node_New_5) (.cond (.tm 19) (.seq (.reg r_node_New_6) .ret) .skip)) (.seq (.draw r_node_New_7 [(0, [11, 13, 14]), (2, [11]), (9, [11, 13])] []) .ret)))))
abbrev c_node_New : CF := ⟨37, [(.tm 2), (.tm 3)], b_node_New⟩
/-! polliwog/pipe.New -/
abbrev r_pipe_New_0 : List COp := [o 2 (.mv (.k (.p none)))]
abbrev r_pipe_New_1 : List COp := [o 3 (.mv (.tm 0)), o 4 (.mxmn false [(.tm 3), (.k (.i .i64 256))]), o 5 (.mxmn true [(.k (.i .i64 1)), (.tm 4)]), oC 6 n_ring_New_string [(.tm 5)], o 7 (.build [(.p none), (.i .i64 0), (.i .i64 0), (.i .i64 0)] [(0, 1, (.tm 6))]), o 8 (.box (.tm 7)), o 2 (.mv (.tm 8))]
def b_pipe_New : C := (.seq (.reg r_pipe_New_0) (.seq (.reg r_pipe_New_1) .ret))
abbrev c_pipe_New : CF := ⟨9, [(.tm 2)], b_pipe_New⟩
/-! polliwog/polliwoglaw16.Own -/
abbrev r_law16_Own_0 : List COp := [o 1 (.box (.tm 0)), o 2 (.alloc [(.i .i64 0), (.i .i64 0), (.i .i64 0), (.i .i64 0), (.i .i64 0), (.i .u32 0), (.i .i64 0), (.i .i64 0), (.i .i64 0), (.i .i64 0), (.i .i64 0)] 38)]
abbrev r_law16_Own_1 : List COp := [o 3 (.faddr 0 (.tm 1)), o 4 (.load false 1 (.tm 3)), o 5 (.faddr 1 (.tm 1)), o 6 (.load false 1 (.tm 5)), o 7 (.faddr 2 (.tm 1)), o 8 (.load false 1 (.tm 7)), o 9 (.faddr 3 (.tm 1)), o 10 (.load false 1 (.tm 9)), o 11 (.faddr 4 (.tm 1)), o 12 (.load false 1 (.tm 11)), o 13 (.faddr 5 (.tm 1)), o 14 (.load false 1 (.tm 13)), o 16 (.faddr 6 (.tm 1)), o 17 (.load false 1 (.tm 16)), oC 15 n_seq_Of [(.tm 14)], oC 18 n_law15_Own [(.tm 17)], o 19 (.build [(.i .i64 0), (.i .i64 0), (.i .i64 0), (.i .i64 0), (.i .i64 0), (.i .u32 0), (.i .i64 0), (.i .i64 0), (.i .i64 0), (.i .i64 0), (.i .i64 0)] [(0, 1, (.tm 4)), (1, 1, (.tm 6)), (2, 1, (.tm 8)), (3, 1, (.tm 10)), (4, 1, (.tm 12)), (5, 1, (.tm 15)), (6, 5, (.tm 18))]), oN (.store 11 (.tm 2) (.tm 19))]
def b_law16_Own : C := (.seq (.reg r_law16_Own_0) (.seq (.draw r_law16_Own_1 [(1, [15, 16]), (3, [15, 16]), (5, [15, 16]), (7, [15, 16]), (9, [15, 16]), (13, [15])] []) .ret))
abbrev c_law16_Own : CF := ⟨20, [(.cell 2 true 11)], b_law16_Own⟩
/-! polliwog/polliwogref15.Check -/
abbrev r_ref15_Check_0 : List COp := [o 2 (.mv (.k (.b false)))]
abbrev r_ref15_Check_1 : List COp := [o 5 (.mv (.tm 0)), o 6 (.len .slice (.tm 5)), o 7 (.mv (.k (.i .i64 0)))]
abbrev r_ref15_Check_2 : List COp := [o 8 (.bin .lss (.tm 7) (.tm 6))]
abbrev r_ref15_Check_3 : List COp := [o 9 (.iaddrL 1 (.tm 5) (.tm 7)), o 10 (.load false 1 (.tm 9)), o 4 (.mv (.tm 10))]
abbrev r_ref15_Check_4 : List COp := [o 11 (.mv (.tm 4)), o 12 (.bin .lss (.tm 11) (.k (.i .i64 1))), o 13 (.mv (.tm 12)), ⟨(some 14), (.op (.mv (.tm 4))), (some (13, false))⟩, ⟨(some 15), (.op (.bin .gtr (.tm 14) (.k (.i .i64 1048576)))), (some (13, false))⟩, o 16 (.pick (.tm 13) (.k (.b true)) (.tm 15))]
abbrev r_ref15_Check_5 : List COp := [o 2 (.mv (.k (.b false)))]
abbrev r_ref15_Check_6 : List COp := [o 17 (.bin .add (.tm 7) (.k (.i .i64 1))), o 7 (.mv (.tm 17))]
def l_ref15_Check_0 : C := (.seq (.reg r_ref15_Check_2) (.seq (.cond (.tm 8) .skip (.exit 0)) (.seq (.blk 1 (.seq (.reg r_ref15_Check_3) (.seq (.reg r_ref15_Check_4) (.cond (.tm 16) (.seq (.reg r_ref15_Check_5) .ret) .skip)))) (.reg r_ref15_Check_6))))
abbrev r_ref15_Check_7 : List COp := [o 18 (.mv (.tm 0)), o 19 (.len .slice (.tm 18)), o 20 (.bin .eql (.tm 19) (.k (.i .i64 5))), o 21 (.mv (.tm 20)), ⟨(some 22), (.op (.mv (.tm 0))), (some (21, true))⟩, ⟨(some 23), (.op (.iaddrL 1 (.tm 22) (.k (.i .i64 1)))), (some (21, true))⟩, ⟨(some 24), (.op (.load false 1 (.tm 23))), (some (21, true))⟩, ⟨(some 25), (.op (.mv (.tm 0))), (some (21, true))⟩, ⟨(some 26), (.op (.iaddrL 1 (.tm 25) (.k (.i .i64 3)))), (some (21, true))⟩, ⟨(some 27), (.op (.load false 1 (.tm 26))), (some (21, true))⟩, ⟨(some 28), (.op (.bin .lss (.tm 24) (.tm 27))), (some (21, true))⟩, o 29 (.pick (.tm 21) (.tm 28) (.k (.b false))), o 30 (.mv (.tm 29)), ⟨(some 31), (.op (.mv (.tm 0))), (some (30, true))⟩, ⟨(some 32), (.op (.iaddrL 1 (.tm 31) (.k (.i .i64 2)))), (some (30, true))⟩, ⟨(some 33), (.op (.load false 1 (.tm 32))), (some (30, true))⟩, ⟨(some 34), (.op (.mv (.tm 0))), (some (30, true))⟩, ⟨(some 35), (.op (.iaddrL 1 (.tm 34) (.k (.i .i64 3)))), (some (30, true))⟩, ⟨(some 36), (.op (.load false 1 (.tm 35))), (some (30, true))⟩, ⟨(some 37), (.op (.bin .lss (.tm 33) (.tm 36))), (some (30, true))⟩, o 38 (.pick (.tm 30) (.tm 37) (.k (.b false))), o 2 (.mv (.tm 38))]
def b_ref15_Check : C := (.seq (.reg r_ref15_Check_0) (.seq (.seq (.reg r_ref15_Check_1) (.blk 0 (.loop l_ref15_Check_0))) (.seq (.draw r_ref15_Check_7 [] []) .ret)))
abbrev c_ref15_Check : CF := ⟨39, [(.tm 2)], b_ref15_Check⟩
/-! (polliwog/node.Config).Check -/
abbrev r_node_Config_Check_0 : List COp := [o 1 (.box (.tm 0)), o 2 (.mv (.k (.i .i64 0)))]
abbrev r_node_Config_Check_1 : List COp := [o 3 (.mv (.fn n_node_Config_Check_1))]
abbrev r_node_Config_Check_2 : List COp := [o 4 (.mv (.tm 3)), o 5 (.faddr 0 (.tm 1)), o 6 (.load false 1 (.tm 5)), ⟨(some 7), (.callv (.tm 4) [(.tm 6), (.k (.i .i64 16))]), none⟩, o 8 (.un .not (.tm 7)), o 9 (.mv (.tm 8)), ⟨(some 10), (.op (.mv (.tm 3))), (some (9, false))⟩, ⟨(some 11), (.op (.faddr 1 (.tm 1))), (some (9, false))⟩, ⟨(some 12), (.op (.load false 1 (.tm 11))), (some (9, false))⟩, ⟨(some 13), (.callv (.tm 10) [(.tm 12), (.k (.i .i64 64))]), (some (9, false))⟩, ⟨(some 14), (.op (.un .not (.tm 13))), (some (9, false))⟩, o 15 (.pick (.tm 9) (.k (.b true)) (.tm 14)), o 16 (.mv (.tm 15)), ⟨(some 17), (.op (.mv (.tm 3))), (some (16, false))⟩, ⟨(some 18), (.op (.faddr 2 (.tm 1))), (some (16, false))⟩, ⟨(some 19), (.op (.load false 1 (.tm 18))), (some (16, false))⟩, ⟨(some 20), (.callv (.tm 17) [(.tm 19), (.k (.i .i64 256))]), (some (16, false))⟩, ⟨(some 21), (.op (.un .not (.tm 20))), (some (16, false))⟩, o 22 (.pick (.tm 16) (.k (.b true)) (.tm 21)), o 23 (.mv (.tm 22)), ⟨(some 24), (.op (.mv (.tm 3))), (some (23, false))⟩, ⟨(some 25), (.op (.faddr 3 (.tm 1))), (some (23, false))⟩, ⟨(some 26), (.op (.load false 1 (.tm 25))), (some (23, false))⟩, ⟨(some 27), (.callv (.tm 24) [(.tm 26), (.k (.i .i64 64))]), (some (23, false))⟩, ⟨(some 28), (.op (.un .not (.tm 27))), (some (23, false))⟩, o 29 (.pick (.tm 23) (.k (.b true)) (.tm 28)), o 30 (.mv (.tm 29)), ⟨(some 31), (.op (.mv (.tm 3))), (some (30, false))⟩, ⟨(some 32), (.op (.faddr 4 (.tm 1))), (some (30, false))⟩, ⟨(some 33), (.op (.load false 1 (.tm 32))), (some (30, false))⟩, ⟨(some 34), (.callv (.tm 31) [(.tm 33), (.k (.i .i64 256))]), (some (30, false))⟩, ⟨(some 35), (.op (.un .not (.tm 34))), (some (30, false))⟩, o 36 (.pick (.tm 30) (.k (.b true)) (.tm 35)), o 37 (.mv (.tm 36)), ⟨(some 38), (.op (.faddr 5 (.tm 1))), (some (37, false))⟩, ⟨(some 39), (.op (.load false 1 (.tm 38))), (some (37, false))⟩, ⟨(some 40), (.op (.faddr 5 (.tm 1))), (some (37, false))⟩, ⟨(some 41), (.op (.load false 1 (.tm 40))), (some (37, false))⟩, ⟨(some 42), (.callf n_seq_Num_Low [(.tm 41)]), (some (37, false))⟩, ⟨(some 43), (.op (.bin .neq (.tm 39) (.tm 42))), (some (37, false))⟩, o 44 (.pick (.tm 37) (.k (.b true)) (.tm 43))]
abbrev r_node_Config_Check_3 : List COp := [o 2 (.mv (.k (.i .i64 1)))]
abbrev r_node_Config_Check_4 : List COp := [o 45 (.faddr 6 (.tm 1)), o 46 (.load true 5 (.tm 45)), oC 47 n_pace_Config_Check [(.tm 46)], o 2 (.mv (.tm 47))]
def b_node_Config_Check : C := (.seq (.reg r_node_Config_Check_0) (.seq (.reg r_node_Config_Check_1) (.seq (.seq (.draw r_node_Config_Check_2 [(35, [39])] []) (.cond (.tm 44) (.seq (.reg r_node_Config_Check_3) .ret) .skip)) (.seq (.reg r_node_Config_Check_4) .ret))))
abbrev c_node_Config_Check : CF := ⟨48, [(.tm 2)], b_node_Config_Check⟩
/-! (polliwog/polliwoglaw18.Config).Right -/
abbrev r_law18_Config_Right_0 : List COp := [o 1 (.box (.tm 0)), o 2 (.alloc [(.i .i64 0), (.i .i64 0), (.i .i64 0), (.i .i64 0), (.i .i64 0), (.i .i64 0), (.sl none 0 (some 0) 0), (.i .i64 0), (.i .i64 0), (.i .i64 0), (.i .i64 0), (.i .i64 0), (.i .i64 0), (.sl none 0 (some 0) 0), (.i .i64 0)] 26)]
abbrev r_law18_Config_Right_1 : List COp := [o 5 (.faddr 0 (.tm 1)), o 6 (.load true 7 (.tm 5)), o 8 (.faddr 7 (.tm 1)), o 9 (.load true 7 (.tm 8)), o 3 (.alloc [(.i .i64 0), (.i .i64 0), (.i .i64 0), (.i .i64 0), (.i .i64 0), (.i .i64 0), (.sl none 0 (some 0) 0)] 24), o 4 (.alloc [(.i .i64 0), (.i .i64 0), (.i .i64 0), (.i .i64 0), (.i .i64 0), (.i .i64 0), (.sl none 0 (some 0) 0)] 24), oC 7 n_law16_Right [(.tm 6)], oC 10 n_law16_Right [(.tm 9)], oN (.store 7 (.tm 3) (.tm 7)), oN (.store 7 (.tm 4) (.tm 10))]
abbrev r_law18_Config_Right_2 : List COp := [o 11 (.faddr 5 (.tm 3)), o 12 (.load false 1 (.tm 11)), o 13 (.faddr 5 (.tm 4)), oN (.store 1 (.tm 13) (.tm 12))]
abbrev r_law18_Config_Right_3 : List COp := [o 14 (.load true 7 (.tm 3)), o 15 (.load true 7 (.tm 4)), o 16 (.faddr 14 (.tm 1)), o 17 (.load false 1 (.tm 16)), o 18 (.mxmn false [(.tm 17), (.k (.i .i64 256))]), o 19 (.mxmn true [(.k (.i .i64 1)), (.tm 18)]), o 20 (.build [(.i .i64 0), (.i .i64 0), (.i .i64 0), (.i .i64 0), (.i .i64 0), (.i .i64 0), (.sl none 0 (some 0) 0), (.i .i64 0), (.i .i64 0), (.i .i64 0), (.i .i64 0), (.i .i64 0), (.i .i64 0), (.sl none 0 (some 0) 0), (.i .i64 0)] [(0, 7, (.tm 14)), (7, 7, (.tm 15)), (14, 1, (.tm 19))]), oN (.store 15 (.tm 2) (.tm 20))]
def b_law18_Config_Right : C := (.seq (.reg r_law18_Config_Right_0) (.seq (.draw r_law18_Config_Right_1 [(3, [7])] [(4, [7, 8]), (5, [7, 8])]) (.seq (.reg r_law18_Config_Right_2) (.seq (.reg r_law18_Config_Right_3) .ret))))
abbrev c_law18_Config_Right : CF := ⟨21, [(.cell 2 true 15)], b_law18_Config_Right⟩
/-! polliwog/polliwogref18.New -/
abbrev r_ref18_New_0 : List COp := [o 3 (.box (.tm 0)), o 4 (.box (.tm 1)), o 6 (.alloc [(.sl none 0 (some 0) 0), (.sl none 0 (some 0) 0), (.i .i64 0)] 49)]
abbrev r_ref18_New_1 : List COp := [o 7 (.load true 7 (.tm 3)), o 9 (.load true 7 (.tm 4)), o 12 (.bslice 8 [(.i .i64 0), (.i .i64 0), (.i .i64 0), (.i .i64 0), (.i .i64 0), (.sl none 0 (some 0) 0), (.b false), (.s [])] 0 []), o 13 (.bslice 8 [(.i .i64 0), (.i .i64 0), (.i .i64 0), (.i .i64 0), (.i .i64 0), (.sl none 0 (some 0) 0), (.b false), (.s [])] 0 []), o 14 (.bslice 1 [(.sl none 0 (some 0) 0)] 2 [(0, (.tm 12)), (1, (.tm 13))]), o 15 (.mv (.tm 2)), oC 8 n_ref16_New [(.tm 7)], oC 10 n_ref16_New [(.tm 9)], o 11 (.bslice 43 [(.i .i64 0), (.i .i64 0), (.i .i64 0), (.i .i64 0), (.i .i64 0), (.i .i64 0), (.sl none 0 (some 0) 0), (.i .i64 0), (.i .i64 0), (.i .i64 0), (.i .i64 0), (.i .i64 0), (.i .i64 0), (.i .i64 0), (.s []), (.sl none 0 (some 0) 0), (.sl none 0 (some 0) 0), (.i .i64 0), (.i .i64 0), (.i .i64 0), (.i .i64 0), (.i .i64 0), (.i .i64 0), (.i .i64 0), (.i .i64 0), (.sl none 0 (some 0) 0), (.sl none 0 (some 0) 0), (.sl none 0 (some 0) 0), (.sl none 0 (some 0) 0), (.i .i64 0), (.i .i64 0), (.i .i64 0), (.i .i64 0), (.sl none 0 (some 0) 0), (.sl none 0 (some 0) 0), (.sl none 0 (some 0) 0), (.sl none 0 (some 0) 0), (.sl none 0 (some 0) 0), (.b false), (.b false), (.i .i64 0), (.b false), (.sl none 0 (some 0) 0)] 2 [(0, (.tm 8)), (1, (.tm 10))]), o 16 (.build [(.sl none 0 (some 0) 0), (.sl none 0 (some 0) 0), (.i .i64 0)] [(0, 1, (.tm 11)), (1, 1, (.tm 14)), (2, 1, (.tm 15))]), oN (.store 3 (.tm 6) (.tm 16))]
def b_ref18_New : C := (.seq (.reg r_ref18_New_0) (.seq (.draw r_ref18_New_1 [(1, [7])] [(2, [7, 8]), (3, [7, 8]), (4, [7, 8])]) .ret))
abbrev c_ref18_New : CF := ⟨17, [(.cell 6 true 3)], b_ref18_New⟩
/-! (*polliwog/node.Node).Quiet -/
abbrev r_node_Node_Quiet_0 : List COp := [o 2 (.mv (.k (.b false)))]
abbrev r_node_Node_Quiet_1 : List COp := [o 3 (.mv (.tm 0)), o 4 (.nilck (.tm 3)), o 5 (.faddr 15 (.tm 4)), o 6 (.load false 1 (.tm 5)), o 7 (.len .slice (.tm 6)), o 8 (.bin .gtr (.tm 7) (.k (.i .i64 0))), o 9 (.mv (.tm 8)), ⟨(some 10), (.op (.mv (.tm 0))), (some (9, false))⟩, ⟨(some 11), (.op (.nilck (.tm 10))), (some (9, false))⟩, ⟨(some 12), (.op (.faddr 16 (.tm 11))), (some (9, false))⟩, ⟨(some 13), (.op (.load false 1 (.tm 12))), (some (9, false))⟩, ⟨(some 14), (.callf n_ring_Ring_pdu_PDU_Len [(.tm 13)]), (some (9, false))⟩, ⟨(some 15), (.op (.bin .gtr (.tm 14) (.k (.i .i64 0)))), (some (9, false))⟩, o 16 (.pick (.tm 9) (.k (.b true)) (.tm 15)), o 17 (.mv (.tm 16)), ⟨(some 18), (.op (.mv (.tm 0))), (some (17, false))⟩, ⟨(some 19), (.op (.nilck (.tm 18))), (some (17, false))⟩, ⟨(some 20), (.op (.faddr 17 (.tm 19))), (some (17, false))⟩, ⟨(some 21), (.op (.load false 1 (.tm 20))), (some (17, false))⟩, o 22 (.pick (.tm 17) (.k (.b true)) (.tm 21)), o 23 (.mv (.tm 22)), ⟨(some 24), (.op (.mv (.tm 0))), (some (23, false))⟩, ⟨(some 25), (.op (.nilck (.tm 24))), (some (23, false))⟩, ⟨(some 26), (.op (.faddr 18 (.tm 25))), (some (23, false))⟩, ⟨(some 27), (.op (.load false 1 (.tm 26))), (some (23, false))⟩, o 28 (.pick (.tm 23) (.k (.b true)) (.tm 27))]
abbrev r_node_Node_Quiet_2 : List COp := [o 2 (.mv (.k (.b false)))]
abbrev r_node_Node_Quiet_3 : List COp := [o 29 (.mv (.tm 0)), oC 30 n_node_Node_ready [(.tm 29)], o 31 (.un .not (.tm 30)), o 32 (.mv (.tm 31)), ⟨(some 33), (.op (.mv (.tm 0))), (some (32, false))⟩, ⟨(some 34), (.callf n_node_Node_idle [(.tm 33)]), (some (32, false))⟩, ⟨(some 35), (.op (.mv (.tm 34))), (some (32, false))⟩, ⟨(some 36), (.op (.mv (.tm 0))), (some (35, true))⟩, ⟨(some 37), (.op (.nilck (.tm 36))), (some (35, true))⟩, ⟨(some 38), (.op (.faddr 14 (.tm 37))), (some (35, true))⟩, ⟨(some 39), (.op (.load false 1 (.tm 38))), (some (35, true))⟩, ⟨(some 40), (.callf n_recv_Recv_Vars [(.tm 39)]), (some (35, true))⟩, ⟨(some 41), (.op (.field 5 1 false (.tm 40))), (some (35, true))⟩, ⟨(some 42), (.op (.bin .eql (.tm 41) (.k (.i .i64 0)))), (some (35, true))⟩, ⟨(some 43), (.op (.pick (.tm 35) (.tm 42) (.k (.b false)))), (some (32, false))⟩, o 44 (.pick (.tm 32) (.k (.b true)) (.tm 43)), o 2 (.mv (.tm 44))]
def b_node_Node_Quiet : C := (.seq (.reg r_node_Node_Quiet_0) (.seq (.seq (.reg r_node_Node_Quiet_1) (.cond (.tm 28) (.seq (.reg r_node_Node_Quiet_2) .ret) .skip)) (.seq (.reg r_node_Node_Quiet_3) .ret)))
abbrev c_node_Node_Quiet : CF := ⟨45, [(.tm 2)], b_node_Node_Quiet⟩
/-! polliwog/link.is -/
abbrev r_link_is_0 : List COp := [o 2 (.mv (.k (.b false)))]
abbrev r_link_is_1 : List COp := [o 3 (.mv (.tm 0)), o 4 (.bin .geq (.tm 3) (.k (.i .i64 0))), o 5 (.mv (.tm 4)), ⟨(some 6), (.op (.mv (.tm 0))), (some (5, true))⟩, ⟨(some 7), (.op (.bin .lss (.tm 6) (.k (.i .i64 2)))), (some (5, true))⟩, o 8 (.pick (.tm 5) (.tm 7) (.k (.b false))), o 2 (.mv (.tm 8))]
def b_link_is : C := (.seq (.reg r_link_is_0) (.seq (.reg r_link_is_1) .ret))
abbrev c_link_is : CF := ⟨9, [(.tm 2)], b_link_is⟩
/-! (*polliwog/node.Node).Request -/
abbrev r_node_Node_Request_0 : List COp := [o 3 (.box (.tm 1)), o 4 (.mv (.k (.sl none 0 (some 0) 0))), o 5 (.mv (.k (.i .i64 0)))]
abbrev r_node_Node_Request_1 : List COp := [o 9 (.load true 3 (.tm 3)), oC 10 n_event_Request_Check [(.tm 9)], o 6 (.mv (.tm 10))]
abbrev r_node_Node_Request_2 : List COp := [o 11 (.mv (.tm 6)), o 12 (.bin .neq (.tm 11) (.k (.i .i64 0)))]
abbrev r_node_Node_Request_3 : List COp := [o 13 (.mv (.tm 6)), o 4 (.mv (.k (.sl none 0 (some 0) 0))), o 5 (.mv (.tm 13))]
abbrev r_node_Node_Request_4 : List COp := [o 14 (.mv (.tm 0)), o 15 (.nilck (.tm 14)), o 16 (.faddr 11 (.tm 15)), o 17 (.load false 1 (.tm 16)), o 20 (.faddr 0 (.tm 3)), o 21 (.load false 1 (.tm 20)), oC 18 n_conn_Conn_Vars [(.tm 17)], o 19 (.field 0 1 false (.tm 18)), oC 22 n_rules_May [(.tm 19), (.tm 21)], o 23 (.un .not (.tm 22))]
abbrev r_node_Node_Request_5 : List COp := [o 4 (.mv (.k (.sl none 0 (some 0) 0))), o 5 (.mv (.k (.i .i64 8)))]
abbrev r_node_Node_Request_6 : List COp := [o 25 (.mv (.tm 0)), o 26 (.load true 3 (.tm 3)), oC 27 n_node_Node_ask [(.tm 25), (.tm 26)], o 24 (.mv (.tm 27)), o 28 (.extract (.tm 24) 0), o 29 (.extract (.tm 24) 1), o 7 (.mv (.tm 28)), o 8 (.mv (.tm 29))]
abbrev r_node_Node_Request_7 : List COp := [o 30 (.mv (.tm 8)), o 31 (.bin .neq (.tm 30) (.k (.i .i64 0)))]
abbrev r_node_Node_Request_8 : List COp := [o 32 (.mv (.tm 8)), o 4 (.mv (.k (.sl none 0 (some 0) 0))), o 5 (.mv (.tm 32))]
abbrev r_node_Node_Request_9 : List COp := [o 33 (.mv (.tm 0)), o 34 (.mv (.tm 7)), oC 35 n_node_Node_credit [(.tm 33), (.tm 34)], o 4 (.mv (.tm 35)), o 5 (.mv (.k (.i .i64 0)))]
def b_node_Node_Request : C := (.seq (.reg r_node_Node_Request_0) (.seq (.seq (.reg r_node_Node_Request_1) (.seq (.reg r_node_Node_Request_2) (.cond (.tm 12) (.seq (.reg r_node_Node_Request_3) .ret) .skip))) (.seq (.seq (.draw r_node_Node_Request_4 [(5, [7])] []) (.cond (.tm 23) (.seq (.reg r_node_Node_Request_5) .ret) .skip)) (.seq (.reg r_node_Node_Request_6) (.seq (.seq (.reg r_node_Node_Request_7) (.cond (.tm 31) (.seq (.reg r_node_Node_Request_8) .ret) .skip)) (.seq (.reg r_node_Node_Request_9) .ret))))))
abbrev c_node_Node_Request : CF := ⟨36, [(.tm 4), (.tm 5)], b_node_Node_Request⟩
/-! (*polliwog/link.Link).pump -/
abbrev r_link_Link_pump_0 : List COp := [o 4 (.mv (.k (.sl none 0 (some 0) 0)))]
abbrev r_link_Link_pump_1 : List COp := [o 12 (.mv (.tm 0)), o 13 (.nilck (.tm 12)), o 14 (.faddr 1 (.tm 13)), o 15 (.load true 4 (.tm 14)), o 16 (.mv (.k (.i .i64 0)))]
abbrev r_link_Link_pump_2 : List COp := [o 17 (.bin .lss (.tm 16) (.k (.i .i64 2)))]
abbrev r_link_Link_pump_3 : List COp := [o 18 (.mv (.tm 16)), o 19 (.indexA 2 2 true (.tm 15) (.tm 16)), o 6 (.alloc [(.p none), (.p none)] 75), o 5 (.mv (.tm 18)), oN (.store 2 (.tm 6) (.tm 19))]
abbrev r_link_Link_pump_4 : List COp := [o 20 (.mv (.tm 0)), o 21 (.mv (.tm 5)), o 22 (.bin .sub (.k (.i .i64 1)) (.tm 21)), o 23 (.nilck (.tm 20)), o 24 (.faddr 1 (.tm 23)), o 25 (.iaddrA 2 2 (.tm 24) (.tm 22)), o 26 (.faddr 1 (.tm 25)), o 27 (.load false 1 (.tm 26)), o 7 (.mv (.tm 27))]
abbrev r_link_Link_pump_5 : List COp := [o 28 (.mv (.tm 7)), o 29 (.nilck (.tm 28)), o 30 (.faddr 0 (.tm 29)), o 31 (.load false 1 (.tm 30)), oC 32 n_ring_Ring_string_Room [(.tm 31)], o 33 (.bin .gtr (.tm 32) (.k (.i .i64 0)))]
abbrev r_link_Link_pump_6 : List COp := [o 35 (.faddr 0 (.tm 6)), o 36 (.load false 1 (.tm 35)), oC 37 n_node_Node_Next [(.tm 36)], o 34 (.mv (.tm 37)), o 38 (.extract (.tm 34) 0), o 39 (.extract (.tm 34) 1), o 8 (.alloc [(.i .i64 0), (.i .i64 0), (.i .u32 0), (.i .u32 0), (.i .u32 0), (.sl none 0 (some 0) 0), (.b false), (.s [])] 59), oN (.store 8 (.tm 8) (.tm 38)), o 9 (.mv (.tm 39))]
abbrev r_link_Link_pump_7 : List COp := [o 40 (.mv (.tm 9)), o 41 (.un .not (.tm 40))]
abbrev r_link_Link_pump_8 : List COp := [o 43 (.mv (.tm 0)), o 44 (.nilck (.tm 43)), o 45 (.faddr 0 (.tm 44)), o 46 (.load false 1 (.tm 45)), o 47 (.load true 8 (.tm 8)), oC 48 n_wire_Wire_Pack [(.tm 46), (.tm 47)], o 42 (.mv (.tm 48)), o 49 (.extract (.tm 42) 0), o 50 (.extract (.tm 42) 1), o 10 (.mv (.tm 49)), o 11 (.mv (.tm 50))]
abbrev r_link_Link_pump_9 : List COp := [o 51 (.mv (.tm 11)), o 52 (.bin .eql (.tm 51) (.k (.i .i64 0)))]
abbrev r_link_Link_pump_10 : List COp := [o 53 (.mv (.tm 7)), o 54 (.mv (.tm 10)), oC 55 n_pipe_Pipe_Put [(.tm 53), (.tm 54)]]
abbrev r_link_Link_pump_11 : List COp := [o 56 (.mv (.tm 1)), o 57 (.mv (.tm 5)), o 58 (.load true 8 (.tm 8)), o 59 (.build [(.i .i64 0), (.i .i64 0), (.i .i64 0), (.i .i64 0), (.i .u32 0), (.i .u32 0), (.i .u32 0), (.sl none 0 (some 0) 0), (.b false), (.s []), (.i .i64 0), (.s []), (.b false), (.i .u8 0), (.i .i64 0), (.i .i64 0), (.s []), (.i .i64 0)] [(0, 1, (.tm 57)), (1, 1, (.k (.i .i64 1))), (2, 8, (.tm 58))]), o 60 (.bslice 18 [(.i .i64 0), (.i .i64 0), (.i .i64 0), (.i .i64 0), (.i .u32 0), (.i .u32 0), (.i .u32 0), (.sl none 0 (some 0) 0), (.b false), (.s []), (.i .i64 0), (.s []), (.b false), (.i .u8 0), (.i .i64 0), (.i .i64 0), (.s []), (.i .i64 0)] 1 [(0, (.tm 59))]), o 61 (.append false 18 168 (.tm 56) (.tm 60)), o 1 (.mv (.tm 61))]
def l_link_Link_pump_0 : C := (.seq (.seq (.reg r_link_Link_pump_5) (.cond (.tm 33) .skip (.exit 2))) (.blk 3 (.seq (.reg r_link_Link_pump_6) (.seq (.seq (.reg r_link_Link_pump_7) (.cond (.tm 41) (.exit 1) .skip)) (.seq (.seq (.draw r_link_Link_pump_8 [] []) (.seq (.reg r_link_Link_pump_9) (.cond (.tm 52) (.reg r_link_Link_pump_10) .skip))) (.reg r_link_Link_pump_11))))))
abbrev r_link_Link_pump_12 : List COp := [o 62 (.bin .add (.tm 16) (.k (.i .i64 1))), o 16 (.mv (.tm 62))]
def l_link_Link_pump_1 : C := (.seq (.reg r_link_Link_pump_2) (.seq (.cond (.tm 17) .skip (.exit 0)) (.seq (.blk 1 (.seq (.reg r_link_Link_pump_3) (.seq (.reg r_link_Link_pump_4) (.blk 2 (.loop l_link_Link_pump_0))))) (.reg r_link_Link_pump_12))))
abbrev r_link_Link_pump_13 : List COp := [o 63 (.mv (.tm 1)), o 4 (.mv (.tm 63))]
def b_link_Link_pump : C := (.seq (.reg r_link_Link_pump_0) (.seq .skip (.seq (.seq (.reg r_link_Link_pump_1) (.blk 0 (.loop l_link_Link_pump_1))) (.seq (.reg r_link_Link_pump_13) .ret))))
abbrev c_link_Link_pump : CF := ⟨64, [(.tm 4)], b_link_Link_pump⟩
/-! polliwog/link.told -/
abbrev r_link_told_0 : List COp := [o 6 (.mv (.k (.sl none 0 (some 0) 0)))]
abbrev r_link_told_1 : List COp := [o 9 (.mv (.tm 2)), o 10 (.len .slice (.tm 9)), o 11 (.mv (.k (.i .i64 0)))]
abbrev r_link_told_2 : List COp := [o 12 (.bin .lss (.tm 11) (.tm 10))]
abbrev r_link_told_3 : List COp := [o 13 (.iaddrL 5 (.tm 9) (.tm 11)), o 14 (.load true 5 (.tm 13)), o 8 (.alloc [(.i .i64 0), (.s []), (.b false), (.i .u8 0), (.i .i64 0)] 61), oN (.store 5 (.tm 8) (.tm 14))]
abbrev r_link_told_4 : List COp := [o 15 (.mv (.tm 0)), o 16 (.mv (.tm 1)), o 17 (.load true 5 (.tm 8)), o 18 (.build [(.i .i64 0), (.i .i64 0), (.i .i64 0), (.i .i64 0), (.i .u32 0), (.i .u32 0), (.i .u32 0), (.sl none 0 (some 0) 0), (.b false), (.s []), (.i .i64 0), (.s []), (.b false), (.i .u8 0), (.i .i64 0), (.i .i64 0), (.s []), (.i .i64 0)] [(0, 1, (.tm 16)), (1, 1, (.k (.i .i64 5))), (10, 5, (.tm 17))]), o 19 (.bslice 18 [(.i .i64 0), (.i .i64 0), (.i .i64 0), (.i .i64 0), (.i .u32 0), (.i .u32 0), (.i .u32 0), (.sl none 0 (some 0) 0), (.b false), (.s []), (.i .i64 0), (.s []), (.b false), (.i .u8 0), (.i .i64 0), (.i .i64 0), (.s []), (.i .i64 0)] 1 [(0, (.tm 18))]), o 20 (.append false 18 168 (.tm 15) (.tm 19)), o 0 (.mv (.tm 20))]
abbrev r_link_told_5 : List COp := [o 21 (.bin .add (.tm 11) (.k (.i .i64 1))), o 11 (.mv (.tm 21))]
def l_link_told_0 : C := (.seq (.reg r_link_told_2) (.seq (.cond (.tm 12) .skip (.exit 0)) (.seq (.blk 1 (.seq (.reg r_link_told_3) (.reg r_link_told_4))) (.reg r_link_told_5))))
abbrev r_link_told_6 : List COp := [o 22 (.mv (.tm 0)), o 6 (.mv (.tm 22))]
def b_link_told : C := (.seq (.reg r_link_told_0) (.seq (.seq (.reg r_link_told_1) (.blk 0 (.loop l_link_told_0))) (.seq (.reg r_link_told_6) .ret)))
abbrev c_link_told : CF := ⟨23, [(.tm 6)], b_link_told⟩
/-! polliwog/crc.Make -/
abbrev r_crc_Make_0 : List COp := [o 0 (.alloc [(.i .u32 0), (.i .u32 0), (.i .u32 0), (.i .u32 0), (.i .u32 0), (.i .u32 0), (.i .u32 0), (.i .u32 0), (.i .u32 0), (.i .u32 0), (.i .u32 0), (.i .u32 0), (.i .u32 0), (.i .u32 0), (.i .u32 0), (.i .u32 0), (.i .u32 0), (.i .u32 0), (.i .u32 0), (.i .u32 0), (.i .u32 0), (.i .u32 0), (.i .u32 0), (.i .u32 0), (.i .u32 0), (.i .u32 0), (.i .u32 0), (.i .u32 0), (.i .u32 0), (.i .u32 0), (.i .u32 0), (.i .u32 0), (.i .u32 0), (.i .u32 0), (.i .u32 0), (.i .u32 0), (.i .u32 0), (.i .u32 0), (.i .u32 0), (.i .u32 0), (.i .u32 0), (.i .u32 0), (.i .u32 0), (.i .u32 0), (.i .u32 0), (.i .u32 0), (.i .u32 0), (.i .u32 0), (.i .u32 0), (.i .u32 0), (.i .u32 0), (.i .u32 0), (.i .u32 0), (.i .u32 0), (.i .u32 0), (.i .u32 0), (.i .u32 0), (.i .u32 0), (.i .u32 0), (.i .u32 0), (.i .u32 0), (.i .u32 0), (.i .u32 0), (.i .u32 0), (.i .u32 0), (.i .u32 0), (.i .u32 0), (.i .u32 0), (.i .u32 0), (.i .u32 0), (.i .u32 0), (.i .u32 0), (.i .u32 0), (.i .u32 0), (.i .u32 0), (.i .u32 0), (.i .u32 0), (.i .u32 0), (.i .u32 0), (.i .u32 0), (.i .u32 0), (.i .u32 0), (.i .u32 0), (.i .u32 0), (.i .u32 0), (.i .u32 0), (.i .u32 0), (.i .u32 0), (.i .u32 0), (.i .u32 0), (.i .u32 0), (.i .u32 0), (.i .u32 0), (.i .u32 0), (.i .u32 0), (.i .u32 0), (.i .u32 0), (.i .u32 0), (.i .u32 0), (.i .u32 0), (.i .u32 0), (.i .u32 0), (.i .u32 0), (.i .u32 0), (.i .u32 0), (.i .u32 0), (.i .u32 0), (.i .u32 0), (.i .u32 0), (.i .u32 0), (.i .u32 0), (.i .u32 0), (.i .u32 0), (.i .u32 0), (.i .u32 0), (.i .u32 0), (.i .u32 0), (.i .u32 0), (.i .u32 0), (.i .u32 0), (.i .u32 0), (.i .u32 0), (.i .u32 0), (.i .u32 0), (.i .u32 0), (.i .u32 0), (.i .u32 0), (.i .u32 0), (.i .u32 0), (.i .u32 0), (.i .u32 0), (.i .u32 0), (.i .u32 0), (.i .u32 0), (.i .u32 0), (.i .u32 0), (.i .u32 0), (.i .u32 0), (.i .u32 0), (.i .u32 0), (.i .u32 0), (.i .u32 0), (.i .u32 0), (.i .u32 0), (.i .u32 0), (.i .u32 0), (.i .u32 0), (.i .u32 0), (.i .u32 0), (.i .u32 0), (.i .u32 0), (.i .u32 0), (.i .u32 0), (.i .u32 0), (.i .u32 0), (.i .u32 0), (.i .u32 0), (.i .u32 0), (.i .u32 0), (.i .u32 0), (.i .u32 0), (.i .u32 0), (.i .u32 0), (.i .u32 0), (.i .u32 0), (.i .u32 0), (.i .u32 0), (.i .u32 0), (.i .u32 0), (.i .u32 0), (.i .u32 0), (.i .u32 0), (.i .u32 0), (.i .u32 0), (.i .u32 0), (.i .u32 0), (.i .u32 0), (.i .u32 0), (.i .u32 0), (.i .u32 0), (.i .u32 0), (.i .u32 0), (.i .u32 0), (.i .u32 0), (.i .u32 0), (.i .u32 0), (.i .u32 0), (.i .u32 0), (.i .u32 0), (.i .u32 0), (.i .u32 0), (.i .u32 0), (.i .u32 0), (.i .u32 0), (.i .u32 0), (.i .u32 0), (.i .u32 0), (.i .u32 0), (.i .u32 0), (.i .u32 0), (.i .u32 0), (.i .u32 0), (.i .u32 0), (.i .u32 0), (.i .u32 0), (.i .u32 0), (.i .u32 0), (.i .u32 0), (.i .u32 0), (.i .u32 0), (.i .u32 0), (.i .u32 0), (.i .u32 0), (.i .u32 0), (.i .u32 0), (.i .u32 0), (.i .u32 0), (.i .u32 0), (.i .u32 0), (.i .u32 0), (.i .u32 0), (.i .u32 0), (.i .u32 0), (.i .u32 0), (.i .u32 0), (.i .u32 0), (.i .u32 0), (.i .u32 0), (.i .u32 0), (.i .u32 0), (.i .u32 0), (.i .u32 0), (.i .u32 0), (.i .u32 0), (.i .u32 0), (.i .u32 0), (.i .u32 0), (.i .u32 0), (.i .u32 0), (.i .u32 0), (.i .u32 0), (.i .u32 0), (.i .u32 0), (.i .u32 0), (.i .u32 0), (.i .u32 0), (.i .u32 0), (.i .u32 0), (.i .u32 0), (.i .u32 0), (.i .u32 0), (.i .u32 0), (.i .u32 0), (.i .u32 0), (.i .u32 0), (.i .u32 0)] 95)]
abbrev r_crc_Make_1 : List COp := [o 1 (.alloc [(.i .u32 0), (.i .u32 0), (.i .u32 0), (.i .u32 0), (.i .u32 0), (.i .u32 0), (.i .u32 0), (.i .u32 0), (.i .u32 0), (.i .u32 0), (.i .u32 0), (.i .u32 0), (.i .u32 0), (.i .u32 0), (.i .u32 0), (.i .u32 0), (.i .u32 0), (.i .u32 0), (.i .u32 0), (.i .u32 0), (.i .u32 0), (.i .u32 0), (.i .u32 0), (.i .u32 0), (.i .u32 0), (.i .u32 0), (.i .u32 0), (.i .u32 0), (.i .u32 0), (.i .u32 0), (.i .u32 0), (.i .u32 0), (.i .u32 0), (.i .u32 0), (.i .u32 0), (.i .u32 0), (.i .u32 0), (.i .u32 0), (.i .u32 0), (.i .u32 0), (.i .u32 0), (.i .u32 0), (.i .u32 0), (.i .u32 0), (.i .u32 0), (.i .u32 0), (.i .u32 0), (.i .u32 0), (.i .u32 0), (.i .u32 0), (.i .u32 0), (.i .u32 0), (.i .u32 0), (.i .u32 0), (.i .u32 0), (.i .u32 0), (.i .u32 0), (.i .u32 0), (.i .u32 0), (.i .u32 0), (.i .u32 0), (.i .u32 0), (.i .u32 0), (.i .u32 0), (.i .u32 0), (.i .u32 0), (.i .u32 0), (.i .u32 0), (.i .u32 0), (.i .u32 0), (.i .u32 0), (.i .u32 0), (.i .u32 0), (.i .u32 0), (.i .u32 0), (.i .u32 0), (.i .u32 0), (.i .u32 0), (.i .u32 0), (.i .u32 0), (.i .u32 0), (.i .u32 0), (.i .u32 0), (.i .u32 0), (.i .u32 0), (.i .u32 0), (.i .u32 0), (.i .u32 0), (.i .u32 0), (.i .u32 0), (.i .u32 0), (.i .u32 0), (.i .u32 0), (.i .u32 0), (.i .u32 0), (.i .u32 0), (.i .u32 0), (.i .u32 0), (.i .u32 0), (.i .u32 0), (.i .u32 0), (.i .u32 0), (.i .u32 0), (.i .u32 0), (.i .u32 0), (.i .u32 0), (.i .u32 0), (.i .u32 0), (.i .u32 0), (.i .u32 0), (.i .u32 0), (.i .u32 0), (.i .u32 0), (.i .u32 0), (.i .u32 0), (.i .u32 0), (.i .u32 0), (.i .u32 0), (.i .u32 0), (.i .u32 0), (.i .u32 0), (.i .u32 0), (.i .u32 0), (.i .u32 0), (.i .u32 0), (.i .u32 0), (.i .u32 0), (.i .u32 0), (.i .u32 0), (.i .u32 0), (.i .u32 0), (.i .u32 0), (.i .u32 0), (.i .u32 0), (.i .u32 0), (.i .u32 0), (.i .u32 0), (.i .u32 0), (.i .u32 0), (.i .u32 0), (.i .u32 0), (.i .u32 0), (.i .u32 0), (.i .u32 0), (.i .u32 0), (.i .u32 0), (.i .u32 0), (.i .u32 0), (.i .u32 0), (.i .u32 0), (.i .u32 0), (.i .u32 0), (.i .u32 0), (.i .u32 0), (.i .u32 0), (.i .u32 0), (.i .u32 0), (.i .u32 0), (.i .u32 0), (.i .u32 0), (.i .u32 0), (.i .u32 0), (.i .u32 0), (.i .u32 0), (.i .u32 0), (.i .u32 0), (.i .u32 0), (.i .u32 0), (.i .u32 0), (.i .u32 0), (.i .u32 0), (.i .u32 0), (.i .u32 0), (.i .u32 0), (.i .u32 0), (.i .u32 0), (.i .u32 0), (.i .u32 0), (.i .u32 0), (.i .u32 0), (.i .u32 0), (.i .u32 0), (.i .u32 0), (.i .u32 0), (.i .u32 0), (.i .u32 0), (.i .u32 0), (.i .u32 0), (.i .u32 0), (.i .u32 0), (.i .u32 0), (.i .u32 0), (.i .u32 0), (.i .u32 0), (.i .u32 0), (.i .u32 0), (.i .u32 0), (.i .u32 0), (.i .u32 0), (.i .u32 0), (.i .u32 0), (.i .u32 0), (.i .u32 0), (.i .u32 0), (.i .u32 0), (.i .u32 0), (.i .u32 0), (.i .u32 0), (.i .u32 0), (.i .u32 0), (.i .u32 0), (.i .u32 0), (.i .u32 0), (.i .u32 0), (.i .u32 0), (.i .u32 0), (.i .u32 0), (.i .u32 0), (.i .u32 0), (.i .u32 0), (.i .u32 0), (.i .u32 0), (.i .u32 0), (.i .u32 0), (.i .u32 0), (.i .u32 0), (.i .u32 0), (.i .u32 0), (.i .u32 0), (.i .u32 0), (.i .u32 0), (.i .u32 0), (.i .u32 0), (.i .u32 0), (.i .u32 0), (.i .u32 0), (.i .u32 0), (.i .u32 0), (.i .u32 0), (.i .u32 0), (.i .u32 0), (.i .u32 0), (.i .u32 0), (.i .u32 0), (.i .u32 0), (.i .u32 0), (.i .u32 0), (.i .u32 0), (.i .u32 0), (.i .u32 0), (.i .u32 0), (.i .u32 0), (.i .u32 0), (.i .u32 0), (.i .u32 0), (.i .u32 0)] 95)]
abbrev r_crc_Make_2 : List COp := [o 5 (.mv (.k (.i .i64 0)))]
abbrev r_crc_Make_3 : List COp := [o 6 (.bin .lss (.tm 5) (.k (.i .i64 256)))]
abbrev r_crc_Make_4 : List COp := [o 7 (.mv (.tm 5)), o 2 (.mv (.tm 7))]
abbrev r_crc_Make_5 : List COp := [o 8 (.mv (.tm 2)), o 9 (.convI .u32 (.tm 8)), o 10 (.bin .shl (.tm 9) (.k (.i .u64 24))), o 3 (.mv (.tm 10))]
abbrev r_crc_Make_6 : List COp := [o 11 (.mv (.k (.i .i64 0)))]
abbrev r_crc_Make_7 : List COp := [o 12 (.bin .lss (.tm 11) (.k (.i .i64 8)))]
abbrev r_crc_Make_8 : List COp := [o 13 (.mv (.tm 3)), o 14 (.bin .shr (.tm 13) (.k (.i .u64 31))), o 4 (.mv (.tm 14))]
abbrev r_crc_Make_9 : List COp := [o 15 (.mv (.tm 3)), o 16 (.bin .shl (.tm 15) (.k (.i .u64 1))), o 17 (.mv (.tm 4)), o 18 (.bin .mul (.k (.i .u32 79764919)) (.tm 17)), o 19 (.bin .xor (.tm 16) (.tm 18)), o 3 (.mv (.tm 19))]
abbrev r_crc_Make_10 : List COp := [o 20 (.bin .add (.tm 11) (.k (.i .i64 1))), o 11 (.mv (.tm 20))]
def l_crc_Make_0 : C := (.seq (.reg r_crc_Make_7) (.seq (.cond (.tm 12) .skip (.exit 2)) (.seq (.blk 3 (.seq (.reg r_crc_Make_8) (.reg r_crc_Make_9))) (.reg r_crc_Make_10))))
abbrev r_crc_Make_11 : List COp := [o 21 (.mv (.tm 2)), o 22 (.mv (.tm 3)), o 23 (.iaddrA 256 1 (.tm 1) (.tm 21)), oN (.store 1 (.tm 23) (.tm 22))]
abbrev r_crc_Make_12 : List COp := [o 24 (.bin .add (.tm 5) (.k (.i .i64 1))), o 5 (.mv (.tm 24))]
def l_crc_Make_1 : C := (.seq (.reg r_crc_Make_3) (.seq (.cond (.tm 6) .skip (.exit 0)) (.seq (.blk 1 (.seq (.reg r_crc_Make_4) (.seq (.reg r_crc_Make_5) (.seq (.seq (.reg r_crc_Make_6) (.blk 2 (.loop l_crc_Make_0))) (.reg r_crc_Make_11))))) (.reg r_crc_Make_12))))
abbrev r_crc_Make_13 : List COp := [o 25 (.load true 256 (.tm 1)), oN (.store 256 (.tm 0) (.tm 25))]
def b_crc_Make : C := (.seq (.reg r_crc_Make_0) (.seq (.reg r_crc_Make_1) (.seq (.seq (.reg r_crc_Make_2) (.blk 0 (.loop l_crc_Make_1))) (.seq (.reg r_crc_Make_13) .ret))))
abbrev c_crc_Make : CF := ⟨26, [(.cell 0 true 256)], b_crc_Make⟩
/-! polliwog/pace.New -/
abbrev r_pace_New_0 : List COp := [o 1 (.box (.tm 0)), o 2 (.mv (.k (.p none))), o 3 (.mv (.k (.i .i64 0)))]
abbrev r_pace_New_1 : List COp := [o 5 (.load true 5 (.tm 1)), oC 6 n_pace_Config_Check [(.tm 5)], o 4 (.mv (.tm 6))]
abbrev r_pace_New_2 : List COp := [o 7 (.mv (.tm 4)), o 8 (.bin .neq (.tm 7) (.k (.i .i64 0)))]
abbrev r_pace_New_3 : List COp := [o 9 (.mv (.tm 4)), o 2 (.mv (.k (.p none))), o 3 (.mv (.tm 9))]
abbrev r_pace_New_4 : List COp := [o 10 (.load true 5 (.tm 1)), o 11 (.build [(.i .i64 0), (.i .i64 0), (.i .i64 0), (.i .i64 0), (.i .i64 0), (.i .i64 0), (.i .i64 0), (.i .i64 0), (.i .i64 0), (.i .i64 0)] [(5, 5, (.tm 10))]), o 12 (.box (.tm 11)), o 2 (.mv (.tm 12)), o 3 (.mv (.k (.i .i64 0)))]
def b_pace_New : C := (.seq (.reg r_pace_New_0) (.seq (.seq (.reg r_pace_New_1) (.seq (.reg r_pace_New_2) (.cond (.tm 8) (.seq (.reg r_pace_New_3) .ret) .skip))) (.seq (.reg r_pace_New_4) .ret)))
abbrev c_pace_New : CF := ⟨13, [(.tm 2), (.tm 3)], b_pace_New⟩
/-! polliwog/conn.New -/
abbrev r_conn_New_0 : List COp := [o 1 (.box (.tm 0)), o 2 (.mv (.k (.p none)))]
abbrev r_conn_New_1 : List COp := [o 3 (.faddr 0 (.tm 1)), o 4 (.load false 1 (.tm 3)), o 5 (.mxmn false [(.tm 4), (.k (.i .i64 16))]), o 6 (.mxmn true [(.k (.i .i64 1)), (.tm 5)]), o 7 (.faddr 1 (.tm 1)), o 8 (.load false 1 (.tm 7)), o 10 (.faddr 0 (.tm 1)), oC 9 n_seq_Num_Low [(.tm 8)], oN (.store 1 (.tm 10) (.tm 6)), o 11 (.faddr 1 (.tm 1)), oN (.store 1 (.tm 11) (.tm 9))]
abbrev r_conn_New_2 : List COp := [o 12 (.load true 2 (.tm 1)), o 13 (.faddr 1 (.tm 1)), o 14 (.load false 1 (.tm 13)), o 15 (.build [(.i .i64 0), (.i .i64 0), (.i .i64 0), (.i .i64 0), (.i .u32 0)] [(0, 1, (.k (.i .i64 1))), (2, 1, (.k (.i .i64 (-1)))), (4, 1, (.tm 14))]), o 16 (.build [(.i .i64 0), (.i .u32 0), (.i .i64 0), (.i .i64 0), (.i .i64 0), (.i .i64 0), (.i .u32 0), (.s [])] [(0, 2, (.tm 12)), (2, 5, (.tm 15))]), o 17 (.box (.tm 16)), o 2 (.mv (.tm 17))]
def b_conn_New : C := (.seq (.reg r_conn_New_0) (.seq (.draw r_conn_New_1 [(1, [8])] []) (.seq (.reg r_conn_New_2) .ret)))
abbrev c_conn_New : CF := ⟨18, [(.tm 2)], b_conn_New⟩
/-! (polliwog/seq.Num).Add -/
abbrev r_seq_Num_Add_0 : List COp := [o 4 (.mv (.k (.i .u32 0)))]
abbrev r_seq_Num_Add_1 : List COp := [o 5 (.mv (.tm 0)), oC 6 n_seq_Num_Low [(.tm 5)], o 7 (.convI .i64 (.tm 6)), o 8 (.mv (.tm 1)), o 9 (.bin .and (.tm 8) (.k (.i .i64 16777215))), o 10 (.bin .add (.tm 7) (.tm 9)), oC 11 n_seq_Of [(.tm 10)], o 4 (.mv (.tm 11))]
def b_seq_Num_Add : C := (.seq (.reg r_seq_Num_Add_0) (.seq (.reg r_seq_Num_Add_1) .ret))
abbrev c_seq_Num_Add : CF := ⟨12, [(.tm 4)], b_seq_Num_Add⟩
/-! polliwog/ring.New[polliwog/pdu.PDU] -/
abbrev r_ring_New_pdu_PDU_0 : List COp := [o 2 (.mv (.k (.p none)))]
abbrev r_ring_New_pdu_PDU_1 : List COp := [o 3 (.mv (.tm 0)), o 4 (.mxmn false [(.tm 3), (.k (.i .i64 4096))]), o 5 (.mxmn true [(.k (.i .i64 0)), (.tm 4)]), o 6 (.build [(.sl none 0 (some 0) 0), (.i .i64 0), (.i .i64 0), (.i .i64 0)] [(3, 1, (.tm 5))]), o 7 (.box (.tm 6)), o 2 (.mv (.tm 7))]
def b_ring_New_pdu_PDU : C := (.seq (.reg r_ring_New_pdu_PDU_0) (.seq (.reg r_ring_New_pdu_PDU_1) .ret))
abbrev c_ring_New_pdu_PDU : CF := ⟨8, [(.tm 2)], b_ring_New_pdu_PDU⟩
/-! polliwog/ring.New[string] -/
abbrev r_ring_New_string_0 : List COp := [o 2 (.mv (.k (.p none)))]
abbrev r_ring_New_string_1 : List COp := [o 3 (.mv (.tm 0)), o 4 (.mxmn false [(.tm 3), (.k (.i .i64 4096))]), o 5 (.mxmn true [(.k (.i .i64 0)), (.tm 4)]), o 6 (.build [(.sl none 0 (some 0) 0), (.i .i64 0), (.i .i64 0), (.i .i64 0)] [(3, 1, (.tm 5))]), o 7 (.box (.tm 6)), o 2 (.mv (.tm 7))]
def b_ring_New_string : C := (.seq (.reg r_ring_New_string_0) (.seq (.reg r_ring_New_string_1) .ret))
abbrev c_ring_New_string : CF := ⟨8, [(.tm 2)], b_ring_New_string⟩
/-! polliwog/seq.Of -/
abbrev r_seq_Of_0 : List COp := [o 2 (.mv (.k (.i .u32 0)))]
abbrev r_seq_Of_1 : List COp := [o 3 (.mv (.tm 0)), o 4 (.convI .u32 (.tm 3)), o 5 (.bin .and (.tm 4) (.k (.i .u32 16777215))), o 2 (.mv (.tm 5))]
def b_seq_Of : C := (.seq (.reg r_seq_Of_0) (.seq (.reg r_seq_Of_1) .ret))
abbrev c_seq_Of : CF := ⟨6, [(.tm 2)], b_seq_Of⟩
/-! polliwog/polliwoglaw15.Own -/
abbrev r_law15_Own_0 : List COp := [o 2 (.alloc [(.i .i64 0), (.i .i64 0), (.i .i64 0), (.i .i64 0), (.i .i64 0)] 36)]
abbrev r_law15_Own_1 : List COp := [o 3 (.mv (.tm 0)), o 4 (.iaddrL 1 (.tm 3) (.k (.i .i64 0))), o 5 (.load false 1 (.tm 4)), o 6 (.mv (.tm 0)), o 7 (.iaddrL 1 (.tm 6) (.k (.i .i64 1))), o 8 (.load false 1 (.tm 7)), o 9 (.mv (.tm 0)), o 10 (.iaddrL 1 (.tm 9) (.k (.i .i64 2))), o 11 (.load false 1 (.tm 10)), o 12 (.mv (.tm 0)), o 13 (.iaddrL 1 (.tm 12) (.k (.i .i64 3))), o 14 (.load false 1 (.tm 13)), o 15 (.mv (.tm 0)), o 16 (.iaddrL 1 (.tm 15) (.k (.i .i64 4))), o 17 (.load false 1 (.tm 16)), o 18 (.build [(.i .i64 0), (.i .i64 0), (.i .i64 0), (.i .i64 0), (.i .i64 0)] [(0, 1, (.tm 5)), (1, 1, (.tm 8)), (2, 1, (.tm 11)), (3, 1, (.tm 14)), (4, 1, (.tm 17))]), oN (.store 5 (.tm 2) (.tm 18))]
def b_law15_Own : C := (.seq (.reg r_law15_Own_0) (.seq (.draw r_law15_Own_1 [] []) .ret))
abbrev c_law15_Own : CF := ⟨19, [(.cell 2 true 5)], b_law15_Own⟩
/-! (polliwog/node.Config).Check$1 -/
abbrev r_node_Config_Check_1_0 : List COp := [o 4 (.mv (.k (.b false)))]
abbrev r_node_Config_Check_1_1 : List COp := [o 5 (.mv (.tm 0)), o 6 (.bin .geq (.tm 5) (.k (.i .i64 1))), o 7 (.mv (.tm 6)), ⟨(some 8), (.op (.mv (.tm 0))), (some (7, true))⟩, ⟨(some 9), (.op (.mv (.tm 1))), (some (7, true))⟩, ⟨(some 10), (.op (.bin .leq (.tm 8) (.tm 9))), (some (7, true))⟩, o 11 (.pick (.tm 7) (.tm 10) (.k (.b false))), o 4 (.mv (.tm 11))]
def b_node_Config_Check_1 : C := (.seq (.reg r_node_Config_Check_1_0) (.seq (.reg r_node_Config_Check_1_1) .ret))
abbrev c_node_Config_Check_1 : CF := ⟨12, [(.tm 4)], b_node_Config_Check_1⟩
/-! (polliwog/seq.Num).Low -/
abbrev r_seq_Num_Low_0 : List COp := [o 2 (.mv (.k (.i .u32 0)))]
abbrev r_seq_Num_Low_1 : List COp := [o 3 (.mv (.tm 0)), o 4 (.bin .and (.tm 3) (.k (.i .u32 16777215))), o 2 (.mv (.tm 4))]
def b_seq_Num_Low : C := (.seq (.reg r_seq_Num_Low_0) (.seq (.reg r_seq_Num_Low_1) .ret))
abbrev c_seq_Num_Low : CF := ⟨5, [(.tm 2)], b_seq_Num_Low⟩
/-! (polliwog/pace.Config).Check -/
abbrev r_pace_Config_Check_0 : List COp := [o 1 (.box (.tm 0)), o 2 (.mv (.k (.i .i64 0)))]
abbrev r_pace_Config_Check_1 : List COp := [o 5 (.faddr 0 (.tm 1)), o 6 (.load false 1 (.tm 5)), o 7 (.faddr 1 (.tm 1)), o 8 (.load false 1 (.tm 7)), o 9 (.faddr 2 (.tm 1)), o 10 (.load false 1 (.tm 9)), o 11 (.faddr 3 (.tm 1)), o 12 (.load false 1 (.tm 11)), o 13 (.faddr 4 (.tm 1)), o 14 (.load false 1 (.tm 13)), o 15 (.build [(.i .i64 0), (.i .i64 0), (.i .i64 0), (.i .i64 0), (.i .i64 0)] [(0, 1, (.tm 6)), (1, 1, (.tm 8)), (2, 1, (.tm 10)), (3, 1, (.tm 12)), (4, 1, (.tm 14))]), o 16 (.mv (.k (.i .i64 0)))]
abbrev r_pace_Config_Check_2 : List COp := [o 17 (.bin .lss (.tm 16) (.k (.i .i64 5)))]
abbrev r_pace_Config_Check_3 : List COp := [o 18 (.indexA 5 1 false (.tm 15) (.tm 16)), o 4 (.mv (.tm 18))]
abbrev r_pace_Config_Check_4 : List COp := [o 19 (.mv (.tm 4)), o 20 (.bin .lss (.tm 19) (.k (.i .i64 1))), o 21 (.mv (.tm 20)), ⟨(some 22), (.op (.mv (.tm 4))), (some (21, false))⟩, ⟨(some 23), (.op (.bin .gtr (.tm 22) (.k (.i .i64 1048576)))), (some (21, false))⟩, o 24 (.pick (.tm 21) (.k (.b true)) (.tm 23))]
abbrev r_pace_Config_Check_5 : List COp := [o 2 (.mv (.k (.i .i64 1)))]
abbrev r_pace_Config_Check_6 : List COp := [o 25 (.bin .add (.tm 16) (.k (.i .i64 1))), o 16 (.mv (.tm 25))]
def l_pace_Config_Check_0 : C := (.seq (.reg r_pace_Config_Check_2) (.seq (.cond (.tm 17) .skip (.exit 0)) (.seq (.blk 1 (.seq (.reg r_pace_Config_Check_3) (.seq (.reg r_pace_Config_Check_4) (.cond (.tm 24) (.seq (.reg r_pace_Config_Check_5) .ret) .skip)))) (.reg r_pace_Config_Check_6))))
abbrev r_pace_Config_Check_7 : List COp := [o 26 (.faddr 1 (.tm 1)), o 27 (.load false 1 (.tm 26)), o 28 (.faddr 3 (.tm 1)), o 29 (.load false 1 (.tm 28)), o 30 (.bin .geq (.tm 27) (.tm 29)), o 31 (.mv (.tm 30)), ⟨(some 32), (.op (.faddr 2 (.tm 1))), (some (31, false))⟩, ⟨(some 33), (.op (.load false 1 (.tm 32))), (some (31, false))⟩, ⟨(some 34), (.op (.faddr 3 (.tm 1))), (some (31, false))⟩, ⟨(some 35), (.op (.load false 1 (.tm 34))), (some (31, false))⟩, ⟨(some 36), (.op (.bin .geq (.tm 33) (.tm 35))), (some (31, false))⟩, o 37 (.pick (.tm 31) (.k (.b true)) (.tm 36))]
abbrev r_pace_Config_Check_8 : List COp := [o 2 (.mv (.k (.i .i64 1)))]
abbrev r_pace_Config_Check_9 : List COp := [o 2 (.mv (.k (.i .i64 0)))]
def b_pace_Config_Check : C := (.seq (.reg r_pace_Config_Check_0) (.seq (.seq (.reg r_pace_Config_Check_1) (.blk 0 (.loop l_pace_Config_Check_0))) (.seq (.seq (.reg r_pace_Config_Check_7) (.cond (.tm 37) (.seq (.reg r_pace_Config_Check_8) .ret) .skip)) (.seq (.reg r_pace_Config_Check_9) .ret))))
abbrev c_pace_Config_Check : CF := ⟨38, [(.tm 2)], b_pace_Config_Check⟩
/-! polliwog/polliwoglaw16.Right -/
abbrev r_law16_Right_0 : List COp := [o 1 (.box (.tm 0)), o 2 (.alloc [(.i .i64 0), (.i .i64 0), (.i .i64 0), (.i .i64 0), (.i .i64 0), (.i .i64 0), (.sl none 0 (some 0) 0)] 24)]
abbrev r_law16_Right_1 : List COp := [o 3 (.mv (.fn n_law16_Right_1))]
abbrev r_law16_Right_2 : List COp := [o 4 (.mv (.tm 3)), o 5 (.faddr 0 (.tm 1)), o 6 (.load false 1 (.tm 5)), o 8 (.mv (.tm 3)), o 9 (.faddr 1 (.tm 1)), o 10 (.load false 1 (.tm 9)), o 12 (.mv (.tm 3)), o 13 (.faddr 2 (.tm 1)), o 14 (.load false 1 (.tm 13)), o 16 (.mv (.tm 3)), o 17 (.faddr 3 (.tm 1)), o 18 (.load false 1 (.tm 17)), o 20 (.mv (.tm 3)), o 21 (.faddr 4 (.tm 1)), o 22 (.load false 1 (.tm 21)), o 24 (.faddr 5 (.tm 1)), o 25 (.load false 1 (.tm 24)), o 27 (.faddr 6 (.tm 1)), o 28 (.load false 1 (.tm 27)), ⟨(some 7), (.callv (.tm 4) [(.tm 6), (.k (.i .i64 16))]), none⟩, ⟨(some 11), (.callv (.tm 8) [(.tm 10), (.k (.i .i64 64))]), none⟩, ⟨(some 15), (.callv (.tm 12) [(.tm 14), (.k (.i .i64 256))]), none⟩, ⟨(some 19), (.callv (.tm 16) [(.tm 18), (.k (.i .i64 64))]), none⟩, ⟨(some 23), (.callv (.tm 20) [(.tm 22), (.k (.i .i64 256))]), none⟩, oC 26 n_ref01_Of [(.tm 25)], oC 29 n_law15_Right [(.tm 28)], o 30 (.build [(.i .i64 0), (.i .i64 0), (.i .i64 0), (.i .i64 0), (.i .i64 0), (.i .i64 0), (.sl none 0 (some 0) 0)] [(0, 1, (.tm 7)), (1, 1, (.tm 11)), (2, 1, (.tm 15)), (3, 1, (.tm 19)), (4, 1, (.tm 23)), (5, 1, (.tm 26)), (6, 1, (.tm 29))]), oN (.store 7 (.tm 2) (.tm 30))]
def b_law16_Right : C := (.seq (.reg r_law16_Right_0) (.seq (.reg r_law16_Right_1) (.seq (.draw r_law16_Right_2 [(5, [20]), (8, [20, 21]), (11, [20, 21, 22]), (14, [20, 21, 22, 23]), (16, [20, 21, 22, 23, 24]), (18, [20, 21, 22, 23, 24, 25])] []) .ret)))
abbrev c_law16_Right : CF := ⟨31, [(.cell 2 true 7)], b_law16_Right⟩
/-! polliwog/polliwogref16.New -/
abbrev r_ref16_New_0 : List COp := [o 1 (.box (.tm 0)), o 2 (.alloc [(.i .i64 0), (.i .i64 0), (.i .i64 0), (.i .i64 0), (.i .i64 0), (.i .i64 0), (.sl none 0 (some 0) 0), (.i .i64 0), (.i .i64 0), (.i .i64 0), (.i .i64 0), (.i .i64 0), (.i .i64 0), (.i .i64 0), (.s []), (.sl none 0 (some 0) 0), (.sl none 0 (some 0) 0), (.i .i64 0), (.i .i64 0), (.i .i64 0), (.i .i64 0), (.i .i64 0), (.i .i64 0), (.i .i64 0), (.i .i64 0), (.sl none 0 (some 0) 0), (.sl none 0 (some 0) 0), (.sl none 0 (some 0) 0), (.sl none 0 (some 0) 0), (.i .i64 0), (.i .i64 0), (.i .i64 0), (.i .i64 0), (.sl none 0 (some 0) 0), (.sl none 0 (some 0) 0), (.sl none 0 (some 0) 0), (.sl none 0 (some 0) 0), (.sl none 0 (some 0) 0), (.b false), (.b false), (.i .i64 0), (.b false), (.sl none 0 (some 0) 0)] 131)]
abbrev r_ref16_New_1 : List COp := [o 3 (.load true 7 (.tm 1)), o 4 (.faddr 0 (.tm 1)), o 5 (.load false 1 (.tm 4)), o 6 (.faddr 5 (.tm 1)), o 7 (.load false 1 (.tm 6)), o 8 (.faddr 1 (.tm 1)), o 9 (.load false 1 (.tm 8)), o 10 (.bin .add (.tm 7) (.tm 9)), o 12 (.faddr 6 (.tm 1)), o 13 (.load false 1 (.tm 12)), oC 11 n_ref14_New [(.tm 5), (.tm 10)], oC 14 n_ref15_New [(.tm 13)], o 15 (.build [(.i .i64 0), (.i .i64 0), (.i .i64 0), (.i .i64 0), (.i .i64 0), (.i .i64 0), (.sl none 0 (some 0) 0), (.i .i64 0), (.i .i64 0), (.i .i64 0), (.i .i64 0), (.i .i64 0), (.i .i64 0), (.i .i64 0), (.s []), (.sl none 0 (some 0) 0), (.sl none 0 (some 0) 0), (.i .i64 0), (.i .i64 0), (.i .i64 0), (.i .i64 0), (.i .i64 0), (.i .i64 0), (.i .i64 0), (.i .i64 0), (.sl none 0 (some 0) 0), (.sl none 0 (some 0) 0), (.sl none 0 (some 0) 0), (.sl none 0 (some 0) 0), (.i .i64 0), (.i .i64 0), (.i .i64 0), (.i .i64 0), (.sl none 0 (some 0) 0), (.sl none 0 (some 0) 0), (.sl none 0 (some 0) 0), (.sl none 0 (some 0) 0), (.sl none 0 (some 0) 0), (.b false), (.b false), (.i .i64 0), (.b false), (.sl none 0 (some 0) 0)] [(0, 7, (.tm 3)), (7, 8, (.tm 11)), (15, 2, (.tm 14))]), oN (.store 43 (.tm 2) (.tm 15))]
def b_ref16_New : C := (.seq (.reg r_ref16_New_0) (.seq (.draw r_ref16_New_1 [(0, [11, 12]), (9, [11])] []) .ret))
abbrev c_ref16_New : CF := ⟨16, [(.cell 2 true 43)], b_ref16_New⟩
/-! (*polliwog/ring.Ring[polliwog/pdu.PDU]).Len -/
abbrev r_ring_Ring_pdu_PDU_Len_0 : List COp := [o 2 (.mv (.k (.i .i64 0)))]
abbrev r_ring_Ring_pdu_PDU_Len_1 : List COp := [o 3 (.mv (.tm 0)), o 4 (.nilck (.tm 3)), o 5 (.faddr 2 (.tm 4)), o 6 (.load false 1 (.tm 5)), o 2 (.mv (.tm 6))]
def b_ring_Ring_pdu_PDU_Len : C := (.seq (.reg r_ring_Ring_pdu_PDU_Len_0) (.seq (.reg r_ring_Ring_pdu_PDU_Len_1) .ret))
abbrev c_ring_Ring_pdu_PDU_Len : CF := ⟨7, [(.tm 2)], b_ring_Ring_pdu_PDU_Len⟩
/-! (*polliwog/node.Node).ready -/
abbrev r_node_Node_ready_0 : List COp := [o 2 (.mv (.k (.b false)))]
abbrev r_node_Node_ready_1 : List COp := [o 3 (.mv (.tm 0)), o 4 (.nilck (.tm 3)), o 5 (.faddr 13 (.tm 4)), o 6 (.load false 1 (.tm 5)), o 7 (.eq true .ptr (.tm 6) (.k (.p none))), o 2 (.mv (.tm 7))]
def b_node_Node_ready : C := (.seq (.reg r_node_Node_ready_0) (.seq (.reg r_node_Node_ready_1) .ret))
abbrev c_node_Node_ready : CF := ⟨8, [(.tm 2)], b_node_Node_ready⟩
/-! (*polliwog/node.Node).idle -/
abbrev r_node_Node_idle_0 : List COp := [o 2 (.mv (.k (.b false)))]
abbrev r_node_Node_idle_1 : List COp := [o 3 (.mv (.tm 0)), oC 4 n_node_Node_ready [(.tm 3)], o 5 (.un .not (.tm 4)), o 6 (.mv (.tm 5)), ⟨(some 7), (.op (.mv (.tm 0))), (some (6, false))⟩, ⟨(some 8), (.op (.nilck (.tm 7))), (some (6, false))⟩, ⟨(some 9), (.op (.faddr 13 (.tm 8))), (some (6, false))⟩, ⟨(some 10), (.op (.load false 1 (.tm 9))), (some (6, false))⟩, ⟨(some 11), (.callf n_send_Send_Idle [(.tm 10)]), (some (6, false))⟩, o 12 (.pick (.tm 6) (.k (.b true)) (.tm 11)), o 2 (.mv (.tm 12))]
def b_node_Node_idle : C := (.seq (.reg r_node_Node_idle_0) (.seq (.reg r_node_Node_idle_1) .ret))
abbrev c_node_Node_idle : CF := ⟨13, [(.tm 2)], b_node_Node_idle⟩
/-! (*polliwog/recv.Recv).Vars -/
abbrev r_recv_Recv_Vars_0 : List COp := [o 2 (.alloc [(.i .u32 0), (.i .u32 0), (.i .u32 0), (.i .i64 0), (.i .i64 0), (.i .i64 0)] 134)]
abbrev r_recv_Recv_Vars_1 : List COp := [o 3 (.mv (.tm 0)), o 4 (.nilck (.tm 3)), o 5 (.faddr 0 (.tm 4)), o 6 (.load false 1 (.tm 5)), o 7 (.mv (.tm 0)), o 8 (.nilck (.tm 7)), o 9 (.faddr 1 (.tm 8)), o 10 (.load false 1 (.tm 9)), o 11 (.mv (.tm 0)), o 12 (.nilck (.tm 11)), o 13 (.faddr 2 (.tm 12)), o 14 (.load false 1 (.tm 13)), o 15 (.mv (.tm 0)), o 16 (.nilck (.tm 15)), o 17 (.faddr 4 (.tm 16)), o 18 (.load false 1 (.tm 17)), o 19 (.len .map (.tm 18)), o 20 (.mv (.tm 0)), o 21 (.nilck (.tm 20)), o 22 (.faddr 5 (.tm 21)), o 23 (.load false 1 (.tm 22)), o 24 (.len .slice (.tm 23)), o 25 (.mv (.tm 0)), o 26 (.nilck (.tm 25)), o 27 (.faddr 6 (.tm 26)), o 28 (.load false 1 (.tm 27)), o 29 (.len .slice (.tm 28)), o 30 (.build [(.i .u32 0), (.i .u32 0), (.i .u32 0), (.i .i64 0), (.i .i64 0), (.i .i64 0)] [(0, 1, (.tm 6)), (1, 1, (.tm 10)), (2, 1, (.tm 14)), (3, 1, (.tm 19)), (4, 1, (.tm 24)), (5, 1, (.tm 29))]), oN (.store 6 (.tm 2) (.tm 30))]
def b_recv_Recv_Vars : C := (.seq (.reg r_recv_Recv_Vars_0) (.seq (.draw r_recv_Recv_Vars_1 [] []) .ret))
abbrev c_recv_Recv_Vars : CF := ⟨31, [(.cell 2 true 6)], b_recv_Recv_Vars⟩
/-! (polliwog/event.Request).Check -/
abbrev r_event_Request_Check_0 : List COp := [o 1 (.box (.tm 0)), o 2 (.mv (.k (.i .i64 0)))]
abbrev r_event_Request_Check_1 : List COp := [o 3 (.mv (.k (.i .i64 0)))]
abbrev r_event_Request_Check_2 : List COp := [o 4 (.faddr 0 (.tm 1)), o 5 (.load false 1 (.tm 4))]
abbrev r_event_Request_Check_3 : List COp := [o 7 (.bin .eql (.tm 5) (.k (.i .i64 1))), o 6 (.mv (.tm 7))]
abbrev r_event_Request_Check_4 : List COp := [o 8 (.bin .eql (.tm 5) (.k (.i .i64 3))), o 6 (.mv (.tm 8))]
abbrev r_event_Request_Check_5 : List COp := [o 9 (.bin .eql (.tm 5) (.k (.i .i64 4))), o 6 (.mv (.tm 9))]
abbrev r_event_Request_Check_6 : List COp := [o 3 (.mv (.k (.i .i64 64)))]
abbrev r_event_Request_Check_7 : List COp := [o 11 (.bin .eql (.tm 5) (.k (.i .i64 7))), o 10 (.mv (.tm 11))]
abbrev r_event_Request_Check_8 : List COp := [o 12 (.bin .eql (.tm 5) (.k (.i .i64 8))), o 10 (.mv (.tm 12))]
abbrev r_event_Request_Check_9 : List COp := [o 13 (.bin .eql (.tm 5) (.k (.i .i64 9))), o 10 (.mv (.tm 13))]
abbrev r_event_Request_Check_10 : List COp := [o 3 (.mv (.k (.i .i64 200)))]
abbrev r_event_Request_Check_11 : List COp := [o 15 (.bin .eql (.tm 5) (.k (.i .i64 2))), o 14 (.mv (.tm 15))]
abbrev r_event_Request_Check_12 : List COp := [o 16 (.bin .eql (.tm 5) (.k (.i .i64 5))), o 14 (.mv (.tm 16))]
abbrev r_event_Request_Check_13 : List COp := [o 17 (.bin .eql (.tm 5) (.k (.i .i64 6))), o 14 (.mv (.tm 17))]
abbrev r_event_Request_Check_14 : List COp := [o 18 (.bin .eql (.tm 5) (.k (.i .i64 10))), o 14 (.mv (.tm 18))]
abbrev r_event_Request_Check_15 : List COp := [o 19 (.bin .eql (.tm 5) (.k (.i .i64 11))), o 14 (.mv (.tm 19))]
abbrev r_event_Request_Check_16 : List COp := [o 2 (.mv (.k (.i .i64 10)))]
abbrev r_event_Request_Check_17 : List COp := [o 21 (.mv (.tm 3)), o 22 (.bin .gtr (.tm 21) (.k (.i .i64 0))), o 23 (.mv (.tm 22)), ⟨(some 24), (.op (.faddr 1 (.tm 1))), (some (23, true))⟩, ⟨(some 25), (.op (.load false 1 (.tm 24))), (some (23, true))⟩, ⟨(some 26), (.op (.len .str (.tm 25))), (some (23, true))⟩, ⟨(some 27), (.op (.mv (.tm 3))), (some (23, true))⟩, ⟨(some 28), (.op (.bin .gtr (.tm 26) (.tm 27))), (some (23, true))⟩, o 29 (.pick (.tm 23) (.tm 28) (.k (.b false))), o 20 (.mv (.tm 29))]
abbrev r_event_Request_Check_18 : List COp := [o 2 (.mv (.k (.i .i64 6)))]
abbrev r_event_Request_Check_19 : List COp := [o 31 (.mv (.tm 3)), o 32 (.bin .eql (.tm 31) (.k (.i .i64 0))), o 33 (.mv (.tm 32)), ⟨(some 34), (.op (.faddr 1 (.tm 1))), (some (33, true))⟩, ⟨(some 35), (.op (.load false 1 (.tm 34))), (some (33, true))⟩, ⟨(some 36), (.op (.bin .neq (.tm 35) (.k (.s [])))), (some (33, true))⟩, o 37 (.pick (.tm 33) (.tm 36) (.k (.b false))), o 30 (.mv (.tm 37))]
abbrev r_event_Request_Check_20 : List COp := [o 38 (.faddr 0 (.tm 1)), o 39 (.load false 1 (.tm 38)), o 40 (.bin .neq (.tm 39) (.k (.i .i64 10))), o 41 (.mv (.tm 40)), ⟨(some 42), (.op (.faddr 2 (.tm 1))), (some (41, true))⟩, ⟨(some 43), (.op (.load false 1 (.tm 42))), (some (41, true))⟩, ⟨(some 44), (.op (.bin .neq (.tm 43) (.k (.i .i64 0)))), (some (41, true))⟩, o 45 (.pick (.tm 41) (.tm 44) (.k (.b false))), o 30 (.mv (.tm 45))]
abbrev r_event_Request_Check_21 : List COp := [o 46 (.faddr 0 (.tm 1)), o 47 (.load false 1 (.tm 46)), o 48 (.bin .eql (.tm 47) (.k (.i .i64 10))), o 49 (.mv (.tm 48)), ⟨(some 50), (.op (.faddr 2 (.tm 1))), (some (49, true))⟩, ⟨(some 51), (.op (.load false 1 (.tm 50))), (some (49, true))⟩, ⟨(some 52), (.op (.bin .lss (.tm 51) (.k (.i .i64 1)))), (some (49, true))⟩, ⟨(some 53), (.op (.mv (.tm 52))), (some (49, true))⟩, ⟨(some 54), (.op (.faddr 2 (.tm 1))), (some (53, false))⟩, ⟨(some 55), (.op (.load false 1 (.tm 54))), (some (53, false))⟩, ⟨(some 56), (.op (.bin .gtr (.tm 55) (.k (.i .i64 64)))), (some (53, false))⟩, ⟨(some 57), (.op (.pick (.tm 53) (.k (.b true)) (.tm 56))), (some (49, true))⟩, o 58 (.pick (.tm 49) (.tm 57) (.k (.b false))), o 30 (.mv (.tm 58))]
abbrev r_event_Request_Check_22 : List COp := [o 2 (.mv (.k (.i .i64 1)))]
abbrev r_event_Request_Check_23 : List COp := [o 2 (.mv (.k (.i .i64 0)))]
def b_event_Request_Check : C := (.seq (.reg r_event_Request_Check_0) (.seq (.reg r_event_Request_Check_1) (.seq (.seq (.reg r_event_Request_Check_2) (.blk 0 (.seq (.seq (.reg r_event_Request_Check_3) (.cond (.tm 6) .skip (.seq (.reg r_event_Request_Check_4) (.cond (.tm 6) .skip (.reg r_event_Request_Check_5))))) (.cond (.tm 6) (.reg r_event_Request_Check_6) (.seq (.seq (.reg r_event_Request_Check_7) (.cond (.tm 10) .skip (.seq (.reg r_event_Request_Check_8) (.cond (.tm 10) .skip (.reg r_event_Request_Check_9))))) (.cond (.tm 10) (.reg r_event_Request_Check_10) (.seq (.seq (.reg r_event_Request_Check_11) (.cond (.tm 14) .skip (.seq (.reg r_event_Request_Check_12) (.cond (.tm 14) .skip (.seq (.reg r_event_Request_Check_13) (.cond (.tm 14) .skip (.seq (.reg r_event_Request_Check_14) (.cond (.tm 14) .skip (.reg r_event_Request_Check_15))))))))) (.cond (.tm 14) .skip (.seq (.reg r_event_Request_Check_16) .ret))))))))) (.seq (.blk 1 (.seq (.reg r_event_Request_Check_17) (.cond (.tm 20) (.seq (.reg r_event_Request_Check_18) .ret) (.seq (.seq (.reg r_event_Request_Check_19) (.cond (.tm 30) .skip (.seq (.reg r_event_Request_Check_20) (.cond (.tm 30) .skip (.reg r_event_Request_Check_21))))) (.cond (.tm 30) (.seq (.reg r_event_Request_Check_22) .ret) .skip))))) (.seq (.reg r_event_Request_Check_23) .ret)))))
abbrev c_event_Request_Check : CF := ⟨59, [(.tm 2)], b_event_Request_Check⟩
/-! polliwog/rules.May -/
abbrev r_rules_May_0 : List COp := [o 4 (.mv (.k (.b false)))]
abbrev r_rules_May_1 : List COp := [oC 5 n_rules_requests [], o 6 (.mv (.tm 0)), o 7 (.mv (.tm 1)), o 8 (.build [(.i .i64 0), (.i .i64 0)] [(0, 1, (.tm 6)), (1, 1, (.tm 7))]), o 9 (.lookup (.arr 2) (.i .i64 0) (.tm 5) (.tm 8) false), o 10 (.bin .eql (.tm 9) (.k (.i .i64 1))), o 4 (.mv (.tm 10))]
def b_rules_May : C := (.seq (.reg r_rules_May_0) (.seq (.reg r_rules_May_1) .ret))
abbrev c_rules_May : CF := ⟨11, [(.tm 4)], b_rules_May⟩
/-! (*polliwog/conn.Conn).Vars -/
abbrev r_conn_Conn_Vars_0 : List COp := [o 2 (.alloc [(.i .i64 0), (.i .i64 0), (.i .i64 0), (.i .i64 0), (.i .u32 0)] 137)]
abbrev r_conn_Conn_Vars_1 : List COp := [o 3 (.mv (.tm 0)), o 4 (.nilck (.tm 3)), o 5 (.faddr 2 (.tm 4)), o 6 (.load true 5 (.tm 5)), oN (.store 5 (.tm 2) (.tm 6))]
def b_conn_Conn_Vars : C := (.seq (.reg r_conn_Conn_Vars_0) (.seq (.reg r_conn_Conn_Vars_1) .ret))
abbrev c_conn_Conn_Vars : CF := ⟨7, [(.cell 2 true 5)], b_conn_Conn_Vars⟩
/-! (*polliwog/node.Node).ask -/
abbrev r_node_Node_ask_0 : List COp := [o 3 (.box (.tm 1)), o 4 (.mv (.k (.sl none 0 (some 0) 0))), o 5 (.mv (.k (.i .i64 0)))]
abbrev r_node_Node_ask_1 : List COp := [o 12 (.faddr 0 (.tm 3)), o 13 (.load false 1 (.tm 12))]
abbrev r_node_Node_ask_2 : List COp := [o 33 (.bin .eql (.tm 13) (.k (.i .i64 7))), o 32 (.mv (.tm 33))]
abbrev r_node_Node_ask_3 : List COp := [o 34 (.mv (.tm 0)), o 35 (.nilck (.tm 34)), o 36 (.faddr 13 (.tm 35)), o 37 (.load false 1 (.tm 36)), o 38 (.faddr 1 (.tm 3)), o 39 (.load false 1 (.tm 38)), oC 40 n_send_Send_Put [(.tm 37), (.tm 39)], o 6 (.mv (.tm 40))]
abbrev r_node_Node_ask_4 : List COp := [o 41 (.mv (.tm 6)), o 42 (.bin .neq (.tm 41) (.k (.i .i64 0)))]
abbrev r_node_Node_ask_5 : List COp := [o 43 (.mv (.tm 6)), o 4 (.mv (.k (.sl none 0 (some 0) 0))), o 5 (.mv (.tm 43))]
abbrev r_node_Node_ask_6 : List COp := [o 44 (.mv (.tm 0)), o 45 (.nilck (.tm 44)), o 46 (.faddr 12 (.tm 45)), o 47 (.load false 1 (.tm 46)), oC 48 n_pace_Pace_Busy [(.tm 47)]]
abbrev r_node_Node_ask_7 : List COp := [o 50 (.bin .eql (.tm 13) (.k (.i .i64 8))), o 49 (.mv (.tm 50))]
abbrev r_node_Node_ask_8 : List COp := [o 51 (.mv (.tm 0)), o 52 (.nilck (.tm 51)), o 53 (.faddr 16 (.tm 52)), o 54 (.load false 1 (.tm 53)), o 55 (.faddr 1 (.tm 3)), o 56 (.load false 1 (.tm 55)), o 57 (.build [(.i .i64 0), (.i .i64 0), (.i .u32 0), (.i .u32 0), (.i .u32 0), (.sl none 0 (some 0) 0), (.b false), (.s [])] [(0, 1, (.k (.i .i64 13))), (7, 1, (.tm 56))]), oC 58 n_ring_Ring_pdu_PDU_Put [(.tm 54), (.tm 57)], o 4 (.mv (.k (.sl none 0 (some 0) 0))), o 5 (.mv (.tm 58))]
abbrev r_node_Node_ask_9 : List COp := [o 60 (.bin .eql (.tm 13) (.k (.i .i64 9))), o 59 (.mv (.tm 60))]
abbrev r_node_Node_ask_10 : List COp := [o 61 (.mv (.tm 0)), o 62 (.nilck (.tm 61)), o 63 (.faddr 16 (.tm 62)), o 64 (.load false 1 (.tm 63)), o 65 (.faddr 1 (.tm 3)), o 66 (.load false 1 (.tm 65)), o 67 (.build [(.i .i64 0), (.i .i64 0), (.i .u32 0), (.i .u32 0), (.i .u32 0), (.sl none 0 (some 0) 0), (.b false), (.s [])] [(0, 1, (.k (.i .i64 14))), (7, 1, (.tm 66))]), oC 68 n_ring_Ring_pdu_PDU_Put [(.tm 64), (.tm 67)], o 4 (.mv (.k (.sl none 0 (some 0) 0))), o 5 (.mv (.tm 68))]
abbrev r_node_Node_ask_11 : List COp := [o 70 (.bin .eql (.tm 13) (.k (.i .i64 10))), o 69 (.mv (.tm 70))]
abbrev r_node_Node_ask_12 : List COp := [o 71 (.mv (.tm 0)), oC 72 n_node_Node_ready [(.tm 71)]]
abbrev r_node_Node_ask_13 : List COp := [o 73 (.mv (.tm 0)), o 74 (.nilck (.tm 73)), o 75 (.faddr 14 (.tm 74)), o 76 (.load false 1 (.tm 75)), o 77 (.faddr 2 (.tm 3)), o 78 (.load false 1 (.tm 77)), oC 79 n_recv_Recv_Take [(.tm 76), (.tm 78)]]
abbrev r_node_Node_ask_14 : List COp := [o 81 (.bin .eql (.tm 13) (.k (.i .i64 11))), o 80 (.mv (.tm 81))]
abbrev r_node_Node_ask_15 : List COp := [o 7 (.mv (.k (.sl none 0 (some 0) 0)))]
abbrev r_node_Node_ask_16 : List COp := [o 82 (.mv (.tm 0)), o 83 (.nilck (.tm 82)), o 84 (.faddr 21 (.tm 83)), o 85 (.load false 1 (.tm 84)), o 86 (.len .slice (.tm 85)), o 87 (.mv (.k (.i .i64 0)))]
abbrev r_node_Node_ask_17 : List COp := [o 88 (.bin .lss (.tm 87) (.tm 86))]
abbrev r_node_Node_ask_18 : List COp := [o 89 (.iaddrL 1 (.tm 85) (.tm 87)), o 90 (.load false 1 (.tm 89)), o 9 (.mv (.tm 90))]
abbrev r_node_Node_ask_19 : List COp := [o 91 (.mv (.tm 7)), o 92 (.mv (.tm 9)), o 93 (.build [(.i .i64 0), (.s []), (.b false), (.i .u8 0), (.i .i64 0)] [(0, 1, (.k (.i .i64 11))), (1, 1, (.tm 92))]), o 94 (.bslice 5 [(.i .i64 0), (.s []), (.b false), (.i .u8 0), (.i .i64 0)] 1 [(0, (.tm 93))]), o 95 (.append false 5 40 (.tm 91) (.tm 94)), o 7 (.mv (.tm 95))]
abbrev r_node_Node_ask_20 : List COp := [o 96 (.bin .add (.tm 87) (.k (.i .i64 1))), o 87 (.mv (.tm 96))]
def l_node_Node_ask_0 : C := (.seq (.reg r_node_Node_ask_17) (.seq (.cond (.tm 88) .skip (.exit 1)) (.seq (.blk 2 (.seq (.reg r_node_Node_ask_18) (.reg r_node_Node_ask_19))) (.reg r_node_Node_ask_20))))
abbrev r_node_Node_ask_21 : List COp := [o 97 (.mv (.tm 0)), o 98 (.nilck (.tm 97)), o 99 (.faddr 21 (.tm 98)), oN (.store 1 (.tm 99) (.k (.sl none 0 (some 0) 0)))]
abbrev r_node_Node_ask_22 : List COp := [o 100 (.mv (.tm 7)), o 4 (.mv (.tm 100)), o 5 (.mv (.k (.i .i64 0)))]
abbrev r_node_Node_ask_23 : List COp := [o 15 (.mv (.tm 0)), o 16 (.nilck (.tm 15)), o 17 (.faddr 11 (.tm 16)), o 18 (.load false 1 (.tm 17)), o 19 (.faddr 0 (.tm 3)), o 20 (.load false 1 (.tm 19)), o 21 (.faddr 1 (.tm 3)), o 22 (.load false 1 (.tm 21)), o 10 (.alloc [(.sl none 0 (some 0) 0), (.sl none 0 (some 0) 0), (.b false), (.b false), (.i .u32 0), (.i .i64 0)] 170), oC 23 n_conn_Conn_Request [(.tm 18), (.tm 20), (.tm 22)], o 14 (.mv (.tm 23)), o 24 (.extract (.tm 14) 0), o 25 (.extract (.tm 14) 1), oN (.store 6 (.tm 10) (.tm 24)), o 11 (.mv (.tm 25))]
abbrev r_node_Node_ask_24 : List COp := [o 26 (.mv (.tm 11)), o 27 (.bin .neq (.tm 26) (.k (.i .i64 0)))]
abbrev r_node_Node_ask_25 : List COp := [o 28 (.mv (.tm 11)), o 4 (.mv (.k (.sl none 0 (some 0) 0))), o 5 (.mv (.tm 28))]
abbrev r_node_Node_ask_26 : List COp := [o 29 (.mv (.tm 0)), o 30 (.load true 6 (.tm 10)), oC 31 n_node_Node_bring [(.tm 29), (.tm 30)], o 4 (.mv (.tm 31)), o 5 (.mv (.k (.i .i64 0)))]
abbrev r_node_Node_ask_27 : List COp := [o 4 (.mv (.k (.sl none 0 (some 0) 0))), o 5 (.mv (.k (.i .i64 0)))]
def b_node_Node_ask : C := (.seq (.reg r_node_Node_ask_0) (.seq (.seq (.reg r_node_Node_ask_1) (.blk 0 (.seq (.reg r_node_Node_ask_2) (.cond (.tm 32) (.seq (.seq (.draw r_node_Node_ask_3 [] []) (.seq (.reg r_node_Node_ask_4) (.cond (.tm 42) (.seq (.reg r_node_Node_ask_5) .ret) .skip))) (.reg r_node_Node_ask_6)) (.seq (.reg r_node_Node_ask_7) (.cond (.tm 49) (.seq (.draw r_node_Node_ask_8 [] []) .ret) (.seq (.reg r_node_Node_ask_9) (.cond (.tm 59) (.seq (.draw r_node_Node_ask_10 [] []) .ret) (.seq (.reg r_node_Node_ask_11) (.cond (.tm 69) (.seq (.reg r_node_Node_ask_12) (.cond (.tm 72) (.draw r_node_Node_ask_13 [] []) .skip)) (.seq (.reg r_node_Node_ask_14) (.cond (.tm 80) (.seq (.reg r_node_Node_ask_15) (.seq (.seq (.reg r_node_Node_ask_16) (.blk 1 (.loop l_node_Node_ask_0))) (.seq (.reg r_node_Node_ask_21) (.seq (.reg r_node_Node_ask_22) .ret)))) (.seq (.draw r_node_Node_ask_23 [] [(8, [10])]) (.seq (.seq (.reg r_node_Node_ask_24) (.cond (.tm 27) (.seq (.reg r_node_Node_ask_25) .ret) .skip)) (.seq (.reg r_node_Node_ask_26) .ret))))))))))))))) (.seq (.reg r_node_Node_ask_27) .ret)))
abbrev c_node_Node_ask : CF := ⟨101, [(.tm 4), (.tm 5)], b_node_Node_ask⟩
/-! (*polliwog/node.Node).credit -/
abbrev r_node_Node_credit_0 : List COp := [o 4 (.mv (.k (.sl none 0 (some 0) 0)))]
abbrev r_node_Node_credit_1 : List COp := [o 6 (.mv (.tm 0)), o 7 (.nilck (.tm 6)), o 8 (.faddr 20 (.tm 7)), o 9 (.load false 1 (.tm 8)), o 5 (.mv (.tm 9))]
abbrev r_node_Node_credit_2 : List COp := [o 10 (.mv (.tm 0)), o 11 (.mv (.tm 0)), oC 12 n_node_Node_ready [(.tm 11)], o 13 (.mv (.tm 12)), ⟨(some 14), (.op (.mv (.tm 0))), (some (13, true))⟩, ⟨(some 15), (.op (.nilck (.tm 14))), (some (13, true))⟩, ⟨(some 16), (.op (.faddr 13 (.tm 15))), (some (13, true))⟩, ⟨(some 17), (.op (.load false 1 (.tm 16))), (some (13, true))⟩, ⟨(some 18), (.callf n_send_Send_Lacks [(.tm 17)]), (some (13, true))⟩, o 19 (.pick (.tm 13) (.tm 18) (.k (.b false))), o 20 (.nilck (.tm 10)), o 21 (.faddr 20 (.tm 20)), oN (.store 1 (.tm 21) (.tm 19))]
abbrev r_node_Node_credit_3 : List COp := [o 23 (.mv (.tm 0)), o 24 (.nilck (.tm 23)), o 25 (.faddr 20 (.tm 24)), o 26 (.load false 1 (.tm 25)), o 27 (.mv (.tm 26)), ⟨(some 28), (.op (.mv (.tm 5))), (some (27, true))⟩, ⟨(some 29), (.op (.un .not (.tm 28))), (some (27, true))⟩, o 30 (.pick (.tm 27) (.tm 29) (.k (.b false))), o 22 (.mv (.tm 30))]
abbrev r_node_Node_credit_4 : List COp := [o 31 (.mv (.tm 1)), oC 32 n_node_report [(.k (.i .u8 87)), (.k (.i .i64 0))], o 33 (.append false 5 40 (.tm 31) (.tm 32)), o 4 (.mv (.tm 33))]
abbrev r_node_Node_credit_5 : List COp := [o 35 (.mv (.tm 5)), o 36 (.mv (.tm 35)), ⟨(some 37), (.op (.mv (.tm 0))), (some (36, true))⟩, ⟨(some 38), (.op (.nilck (.tm 37))), (some (36, true))⟩, ⟨(some 39), (.op (.faddr 20 (.tm 38))), (some (36, true))⟩, ⟨(some 40), (.op (.load false 1 (.tm 39))), (some (36, true))⟩, ⟨(some 41), (.op (.un .not (.tm 40))), (some (36, true))⟩, o 42 (.pick (.tm 36) (.tm 41) (.k (.b false))), o 43 (.mv (.tm 42)), ⟨(some 44), (.op (.mv (.tm 0))), (some (43, true))⟩, ⟨(some 45), (.callf n_node_Node_ready [(.tm 44)]), (some (43, true))⟩, o 46 (.pick (.tm 43) (.tm 45) (.k (.b false))), o 34 (.mv (.tm 46))]
abbrev r_node_Node_credit_6 : List COp := [o 47 (.mv (.tm 1)), oC 48 n_node_report [(.k (.i .u8 88)), (.k (.i .i64 0))], o 49 (.append false 5 40 (.tm 47) (.tm 48)), o 4 (.mv (.tm 49))]
abbrev r_node_Node_credit_7 : List COp := [o 50 (.mv (.tm 1)), o 4 (.mv (.tm 50))]
def b_node_Node_credit : C := (.seq (.reg r_node_Node_credit_0) (.seq (.reg r_node_Node_credit_1) (.seq (.reg r_node_Node_credit_2) (.seq (.blk 0 (.seq (.reg r_node_Node_credit_3) (.cond (.tm 22) (.seq (.reg r_node_Node_credit_4) .ret) (.seq (.reg r_node_Node_credit_5) (.cond (.tm 34) (.seq (.reg r_node_Node_credit_6) .ret) .skip))))) (.seq (.reg r_node_Node_credit_7) .ret)))))
abbrev c_node_Node_credit : CF := ⟨51, [(.tm 4)], b_node_Node_credit⟩
/-! (*polliwog/ring.Ring[string]).Room -/
abbrev r_ring_Ring_string_Room_0 : List COp := [o 2 (.mv (.k (.i .i64 0)))]
abbrev r_ring_Ring_string_Room_1 : List COp := [o 3 (.mv (.tm 0)), o 4 (.nilck (.tm 3)), o 5 (.faddr 3 (.tm 4)), o 6 (.load false 1 (.tm 5)), o 7 (.mv (.tm 0)), o 8 (.nilck (.tm 7)), o 9 (.faddr 2 (.tm 8)), o 10 (.load false 1 (.tm 9)), o 11 (.bin .sub (.tm 6) (.tm 10)), o 2 (.mv (.tm 11))]
def b_ring_Ring_string_Room : C := (.seq (.reg r_ring_Ring_string_Room_0) (.seq (.draw r_ring_Ring_string_Room_1 [] []) .ret))
abbrev c_ring_Ring_string_Room : CF := ⟨12, [(.tm 2)], b_ring_Ring_string_Room⟩
/-! (*polliwog/node.Node).Next -/
abbrev r_node_Node_Next_0 : List COp := [o 2 (.alloc [(.i .i64 0), (.i .i64 0), (.i .u32 0), (.i .u32 0), (.i .u32 0), (.sl none 0 (some 0) 0), (.b false), (.s [])] 59), o 3 (.mv (.k (.b false)))]
abbrev r_node_Node_Next_1 : List COp := [o 20 (.mv (.tm 0)), o 21 (.nilck (.tm 20)), o 22 (.faddr 15 (.tm 21)), o 23 (.load false 1 (.tm 22)), o 24 (.len .slice (.tm 23)), o 25 (.bin .gtr (.tm 24) (.k (.i .i64 0)))]
abbrev r_node_Node_Next_2 : List COp := [o 26 (.mv (.tm 0)), o 27 (.nilck (.tm 26)), o 28 (.faddr 15 (.tm 27)), o 29 (.load false 1 (.tm 28)), o 30 (.iaddrL 8 (.tm 29) (.k (.i .i64 0))), o 31 (.load true 8 (.tm 30)), o 4 (.alloc [(.i .i64 0), (.i .i64 0), (.i .u32 0), (.i .u32 0), (.i .u32 0), (.sl none 0 (some 0) 0), (.b false), (.s [])] 59), oN (.store 8 (.tm 4) (.tm 31))]
abbrev r_node_Node_Next_3 : List COp := [o 32 (.mv (.tm 0)), o 33 (.mv (.tm 0)), o 34 (.nilck (.tm 33)), o 35 (.faddr 15 (.tm 34)), o 36 (.load false 1 (.tm 35)), o 37 (.sliceL 8 (.tm 36) (some (.k (.i .i64 1))) none none), oC 38 n_slices_Clone_Lpdu_PDU_pdu_PDU [(.tm 37)], o 39 (.nilck (.tm 32)), o 40 (.faddr 15 (.tm 39)), oN (.store 1 (.tm 40) (.tm 38))]
abbrev r_node_Node_Next_4 : List COp := [o 41 (.load true 8 (.tm 4)), oN (.store 8 (.tm 2) (.tm 41)), o 3 (.mv (.k (.b true)))]
abbrev r_node_Node_Next_5 : List COp := [o 43 (.mv (.tm 0)), o 44 (.nilck (.tm 43)), o 45 (.faddr 16 (.tm 44)), o 46 (.load false 1 (.tm 45)), oC 47 n_ring_Ring_pdu_PDU_Take [(.tm 46)], o 42 (.mv (.tm 47)), o 48 (.extract (.tm 42) 0), o 49 (.extract (.tm 42) 1), o 5 (.alloc [(.i .i64 0), (.i .i64 0), (.i .u32 0), (.i .u32 0), (.i .u32 0), (.sl none 0 (some 0) 0), (.b false), (.s [])] 59), oN (.store 8 (.tm 5) (.tm 48)), o 6 (.mv (.tm 49))]
abbrev r_node_Node_Next_6 : List COp := [o 50 (.mv (.tm 6)), o 51 (.bin .eql (.tm 50) (.k (.i .i64 0)))]
abbrev r_node_Node_Next_7 : List COp := [o 52 (.load true 8 (.tm 5)), oN (.store 8 (.tm 2) (.tm 52)), o 3 (.mv (.k (.b true)))]
abbrev r_node_Node_Next_8 : List COp := [o 53 (.mv (.tm 0)), oC 54 n_node_Node_ready [(.tm 53)], o 55 (.un .not (.tm 54))]
abbrev r_node_Node_Next_9 : List COp := [o 56 (.build [(.i .i64 0), (.i .i64 0), (.i .u32 0), (.i .u32 0), (.i .u32 0), (.sl none 0 (some 0) 0), (.b false), (.s [])] []), oN (.store 8 (.tm 2) (.tm 56)), o 3 (.mv (.k (.b false)))]
abbrev r_node_Node_Next_10 : List COp := [o 57 (.mv (.tm 0)), o 58 (.nilck (.tm 57)), o 59 (.faddr 18 (.tm 58)), o 60 (.load false 1 (.tm 59))]
abbrev r_node_Node_Next_11 : List COp := [o 61 (.mv (.tm 0)), o 62 (.nilck (.tm 61)), o 63 (.faddr 18 (.tm 62)), oN (.store 1 (.tm 63) (.k (.b false)))]
abbrev r_node_Node_Next_12 : List COp := [o 65 (.mv (.tm 0)), o 66 (.nilck (.tm 65)), o 67 (.faddr 14 (.tm 66)), o 68 (.load false 1 (.tm 67)), oC 69 n_recv_Recv_Stat [(.tm 68)], o 64 (.mv (.tm 69)), o 70 (.extract (.tm 64) 0), o 71 (.extract (.tm 64) 1), o 72 (.extract (.tm 64) 2), o 7 (.mv (.tm 70)), o 8 (.mv (.tm 71)), o 9 (.mv (.tm 72))]
abbrev r_node_Node_Next_13 : List COp := [o 73 (.mv (.tm 8)), o 74 (.mv (.tm 0)), o 75 (.nilck (.tm 74)), o 76 (.faddr 19 (.tm 75)), o 77 (.load false 1 (.tm 76)), o 78 (.mv (.tm 9)), o 79 (.mv (.tm 7)), o 80 (.build [(.i .i64 0), (.i .i64 0), (.i .u32 0), (.i .u32 0), (.i .u32 0), (.sl none 0 (some 0) 0), (.b false), (.s [])] [(0, 1, (.k (.i .i64 11))), (2, 1, (.tm 73)), (3, 1, (.tm 77)), (4, 1, (.tm 78)), (5, 1, (.tm 79))]), oN (.store 8 (.tm 2) (.tm 80)), o 3 (.mv (.k (.b true)))]
abbrev r_node_Node_Next_14 : List COp := [o 82 (.mv (.tm 0)), o 83 (.nilck (.tm 82)), o 84 (.faddr 14 (.tm 83)), o 85 (.load false 1 (.tm 84)), oC 86 n_recv_Recv_Gap [(.tm 85)], o 81 (.mv (.tm 86)), o 87 (.extract (.tm 81) 0), o 88 (.extract (.tm 81) 1), o 89 (.extract (.tm 81) 2), o 90 (.extract (.tm 81) 3), o 10 (.mv (.tm 87)), o 11 (.mv (.tm 88)), o 12 (.mv (.tm 89)), o 13 (.mv (.tm 90))]
abbrev r_node_Node_Next_15 : List COp := [o 91 (.mv (.tm 13))]
abbrev r_node_Node_Next_16 : List COp := [o 92 (.mv (.tm 11)), o 93 (.mv (.tm 12)), o 94 (.mv (.tm 10)), o 95 (.build [(.i .i64 0), (.i .i64 0), (.i .u32 0), (.i .u32 0), (.i .u32 0), (.sl none 0 (some 0) 0), (.b false), (.s [])] [(0, 1, (.k (.i .i64 12))), (2, 1, (.tm 92)), (4, 1, (.tm 93)), (5, 1, (.tm 94))]), oN (.store 8 (.tm 2) (.tm 95)), o 3 (.mv (.k (.b true)))]
abbrev r_node_Node_Next_17 : List COp := [o 96 (.mv (.tm 0)), o 97 (.nilck (.tm 96)), o 98 (.faddr 17 (.tm 97)), o 99 (.load false 1 (.tm 98)), o 100 (.mv (.tm 99)), ⟨(some 101), (.op (.mv (.tm 0))), (some (100, false))⟩, ⟨(some 102), (.op (.nilck (.tm 101))), (some (100, false))⟩, ⟨(some 103), (.op (.faddr 13 (.tm 102))), (some (100, false))⟩, ⟨(some 104), (.op (.load false 1 (.tm 103))), (some (100, false))⟩, ⟨(some 105), (.callf n_send_Send_Due [(.tm 104)]), (some (100, false))⟩, o 106 (.pick (.tm 100) (.k (.b true)) (.tm 105))]
abbrev r_node_Node_Next_18 : List COp := [o 107 (.mv (.tm 0)), o 108 (.nilck (.tm 107)), o 109 (.faddr 17 (.tm 108)), oN (.store 1 (.tm 109) (.k (.b false)))]
abbrev r_node_Node_Next_19 : List COp := [o 111 (.mv (.tm 0)), o 112 (.nilck (.tm 111)), o 113 (.faddr 13 (.tm 112)), o 114 (.load false 1 (.tm 113)), oC 115 n_send_Send_Poll [(.tm 114)], o 110 (.mv (.tm 115)), o 116 (.extract (.tm 110) 0), o 117 (.extract (.tm 110) 1), o 14 (.mv (.tm 116)), o 15 (.mv (.tm 117))]
abbrev r_node_Node_Next_20 : List COp := [o 118 (.mv (.tm 0)), o 119 (.nilck (.tm 118)), o 120 (.faddr 12 (.tm 119)), o 121 (.load false 1 (.tm 120)), o 122 (.mv (.tm 0)), oC 123 n_node_Node_idle [(.tm 122)], oC 124 n_pace_Pace_Polled [(.tm 121), (.tm 123)]]
abbrev r_node_Node_Next_21 : List COp := [o 125 (.mv (.tm 15)), o 126 (.mv (.tm 14)), o 127 (.build [(.i .i64 0), (.i .i64 0), (.i .u32 0), (.i .u32 0), (.i .u32 0), (.sl none 0 (some 0) 0), (.b false), (.s [])] [(0, 1, (.k (.i .i64 10))), (2, 1, (.tm 125)), (3, 1, (.tm 126))]), oN (.store 8 (.tm 2) (.tm 127)), o 3 (.mv (.k (.b true)))]
abbrev r_node_Node_Next_22 : List COp := [o 129 (.mv (.tm 0)), o 130 (.nilck (.tm 129)), o 131 (.faddr 13 (.tm 130)), o 132 (.load false 1 (.tm 131)), oC 133 n_send_Send_Next [(.tm 132)], o 128 (.mv (.tm 133)), o 134 (.extract (.tm 128) 0), o 135 (.extract (.tm 128) 1), o 136 (.extract (.tm 128) 2), o 137 (.extract (.tm 128) 3), o 16 (.mv (.tm 134)), o 17 (.mv (.tm 135)), o 18 (.mv (.tm 136)), o 19 (.mv (.tm 137))]
abbrev r_node_Node_Next_23 : List COp := [o 138 (.mv (.tm 19))]
abbrev r_node_Node_Next_24 : List COp := [o 139 (.mv (.tm 16)), o 140 (.mv (.tm 17)), o 141 (.build [(.i .i64 0), (.i .i64 0), (.i .u32 0), (.i .u32 0), (.i .u32 0), (.sl none 0 (some 0) 0), (.b false), (.s [])] [(0, 1, (.k (.i .i64 8))), (2, 1, (.tm 139)), (7, 1, (.tm 140))]), oN (.store 8 (.tm 2) (.tm 141)), o 3 (.mv (.k (.b true)))]
abbrev r_node_Node_Next_25 : List COp := [o 142 (.build [(.i .i64 0), (.i .i64 0), (.i .u32 0), (.i .u32 0), (.i .u32 0), (.sl none 0 (some 0) 0), (.b false), (.s [])] []), oN (.store 8 (.tm 2) (.tm 142)), o 3 (.mv (.k (.b false)))]
def b_node_Node_Next : C := (.seq (.reg r_node_Node_Next_0) (.seq (.seq (.reg r_node_Node_Next_1) (.cond (.tm 25) (.seq (.reg r_node_Node_Next_2) (.seq (.reg r_node_Node_Next_3) (.seq (.reg r_node_Node_Next_4) .ret))) .skip)) (.seq (.seq (.reg r_node_Node_Next_5) (.seq (.reg r_node_Node_Next_6) (.cond (.tm 51) (.seq (.reg r_node_Node_Next_7) .ret) .skip))) (.seq (.seq (.reg r_node_Node_Next_8) (.cond (.tm 55) (.seq (.reg r_node_Node_Next_9) .ret) .skip)) (.seq (.seq (.reg r_node_Node_Next_10) (.cond (.tm 60) (.seq (.reg r_node_Node_Next_11) (.seq (.reg r_node_Node_Next_12) (.seq (.reg r_node_Node_Next_13) .ret))) .skip)) (.seq (.seq (.reg r_node_Node_Next_14) (.seq (.reg r_node_Node_Next_15) (.cond (.tm 91) (.seq (.reg r_node_Node_Next_16) .ret) .skip))) (.seq (.seq (.reg r_node_Node_Next_17) (.cond (.tm 106) (.seq (.reg r_node_Node_Next_18) (.seq (.reg r_node_Node_Next_19) (.seq (.draw r_node_Node_Next_20 [(3, [6])] []) (.seq (.reg r_node_Node_Next_21) .ret)))) .skip)) (.seq (.seq (.reg r_node_Node_Next_22) (.seq (.reg r_node_Node_Next_23) (.cond (.tm 138) (.seq (.reg r_node_Node_Next_24) .ret) .skip))) (.seq (.reg r_node_Node_Next_25) .ret)))))))))
abbrev c_node_Node_Next : CF := ⟨143, [(.cell 2 true 8), (.tm 3)], b_node_Node_Next⟩
/-! (*polliwog/wire.Wire).Pack -/
abbrev r_wire_Wire_Pack_0 : List COp := [o 3 (.box (.tm 1)), o 4 (.mv (.k (.s []))), o 5 (.mv (.k (.i .i64 0)))]
abbrev r_wire_Wire_Pack_1 : List COp := [o 7 (.load true 8 (.tm 3)), oC 8 n_pdu_PDU_Check [(.tm 7)], o 6 (.mv (.tm 8))]
abbrev r_wire_Wire_Pack_2 : List COp := [o 9 (.mv (.tm 6)), o 10 (.bin .neq (.tm 9) (.k (.i .i64 0)))]
abbrev r_wire_Wire_Pack_3 : List COp := [o 11 (.mv (.tm 6)), o 4 (.mv (.k (.s []))), o 5 (.mv (.tm 11))]
abbrev r_wire_Wire_Pack_4 : List COp := [o 12 (.load true 8 (.tm 3)), o 15 (.mv (.tm 0)), o 16 (.nilck (.tm 15)), o 17 (.faddr 0 (.tm 16)), oC 13 n_pdu_PDU_Bytes [(.tm 12)], o 14 (.build [(.i .u8 0), (.s [])] [(1, 1, (.tm 13))]), oC 18 n_frame_Frame_Bytes [(.tm 14), (.tm 17)], o 19 (.extract (.tm 18) 0), o 20 (.extract (.tm 18) 1), o 4 (.mv (.tm 19)), o 5 (.mv (.tm 20))]
def b_wire_Wire_Pack : C := (.seq (.reg r_wire_Wire_Pack_0) (.seq (.seq (.reg r_wire_Wire_Pack_1) (.seq (.reg r_wire_Wire_Pack_2) (.cond (.tm 10) (.seq (.reg r_wire_Wire_Pack_3) .ret) .skip))) (.seq (.draw r_wire_Wire_Pack_4 [] []) .ret)))
abbrev c_wire_Wire_Pack : CF := ⟨21, [(.tm 4), (.tm 5)], b_wire_Wire_Pack⟩
/-! (*polliwog/pipe.Pipe).Put -/
abbrev r_pipe_Pipe_Put_0 : List COp := [o 4 (.mv (.k (.i .i64 0)))]
abbrev r_pipe_Pipe_Put_1 : List COp := [o 6 (.mv (.tm 0)), o 7 (.nilck (.tm 6)), o 8 (.faddr 0 (.tm 7)), o 9 (.load false 1 (.tm 8)), o 10 (.mv (.tm 1)), oC 11 n_ring_Ring_string_Put [(.tm 9), (.tm 10)], o 5 (.mv (.tm 11))]
abbrev r_pipe_Pipe_Put_2 : List COp := [o 12 (.mv (.tm 5)), o 13 (.bin .eql (.tm 12) (.k (.i .i64 0)))]
abbrev r_pipe_Pipe_Put_3 : List COp := [o 14 (.mv (.tm 0)), o 15 (.nilck (.tm 14)), o 16 (.faddr 1 (.tm 15)), o 17 (.load false 1 (.tm 16)), o 18 (.bin .add (.tm 17) (.k (.i .i64 1))), o 19 (.nilck (.tm 14)), o 20 (.faddr 1 (.tm 19)), oN (.store 1 (.tm 20) (.tm 18))]
abbrev r_pipe_Pipe_Put_4 : List COp := [o 21 (.mv (.tm 5)), o 4 (.mv (.tm 21))]
def b_pipe_Pipe_Put : C := (.seq (.reg r_pipe_Pipe_Put_0) (.seq (.reg r_pipe_Pipe_Put_1) (.seq (.seq (.reg r_pipe_Pipe_Put_2) (.cond (.tm 13) (.reg r_pipe_Pipe_Put_3) .skip)) (.seq (.reg r_pipe_Pipe_Put_4) .ret))))
abbrev c_pipe_Pipe_Put : CF := ⟨22, [(.tm 4)], b_pipe_Pipe_Put⟩
/-! polliwog/polliwoglaw16.Right$1 -/
abbrev r_law16_Right_1_0 : List COp := [o 4 (.mv (.k (.i .i64 0)))]
abbrev r_law16_Right_1_1 : List COp := [o 5 (.mv (.tm 0)), o 6 (.mv (.tm 1)), o 7 (.mxmn false [(.tm 5), (.tm 6)]), o 8 (.mxmn true [(.k (.i .i64 1)), (.tm 7)]), o 4 (.mv (.tm 8))]
def b_law16_Right_1 : C := (.seq (.reg r_law16_Right_1_0) (.seq (.reg r_law16_Right_1_1) .ret))
abbrev c_law16_Right_1 : CF := ⟨9, [(.tm 4)], b_law16_Right_1⟩
/-! polliwog/polliwogref01.Of -/
abbrev r_ref01_Of_0 : List COp := [o 2 (.mv (.k (.i .i64 0)))]
abbrev r_ref01_Of_1 : List COp := [o 4 (.mv (.tm 0)), o 5 (.bin .rem (.tm 4) (.k (.i .i64 16777216))), o 3 (.mv (.tm 5))]
abbrev r_ref01_Of_2 : List COp := [o 6 (.mv (.tm 3)), o 7 (.bin .lss (.tm 6) (.k (.i .i64 0)))]
abbrev r_ref01_Of_3 : List COp := [o 8 (.mv (.tm 3)), o 9 (.bin .add (.tm 8) (.k (.i .i64 16777216))), o 3 (.mv (.tm 9))]
abbrev r_ref01_Of_4 : List COp := [o 10 (.mv (.tm 3)), o 2 (.mv (.tm 10))]
def b_ref01_Of : C := (.seq (.reg r_ref01_Of_0) (.seq (.reg r_ref01_Of_1) (.seq (.seq (.reg r_ref01_Of_2) (.cond (.tm 7) (.reg r_ref01_Of_3) .skip)) (.seq (.reg r_ref01_Of_4) .ret))))
abbrev c_ref01_Of : CF := ⟨11, [(.tm 2)], b_ref01_Of⟩
/-! polliwog/polliwoglaw15.Right -/
abbrev r_law15_Right_0 : List COp := [o 2 (.mv (.k (.sl none 0 (some 0) 0)))]
abbrev r_law15_Right_1 : List COp := [o 5 (.bslice 1 [(.i .i64 0)] 5 [(0, (.k (.i .i64 3))), (1, (.k (.i .i64 2))), (2, (.k (.i .i64 5))), (3, (.k (.i .i64 9))), (4, (.k (.i .i64 4)))]), o 3 (.mv (.tm 5))]
abbrev r_law15_Right_2 : List COp := [o 4 (.mv (.k (.i .i64 0)))]
abbrev r_law15_Right_3 : List COp := [o 6 (.mv (.tm 4)), o 7 (.mv (.tm 0)), o 8 (.len .slice (.tm 7)), o 9 (.bin .lss (.tm 6) (.tm 8)), o 10 (.mv (.tm 9)), ⟨(some 11), (.op (.mv (.tm 4))), (some (10, true))⟩, ⟨(some 12), (.op (.bin .lss (.tm 11) (.k (.i .i64 5)))), (some (10, true))⟩, o 13 (.pick (.tm 10) (.tm 12) (.k (.b false)))]
abbrev r_law15_Right_4 : List COp := [o 16 (.mv (.tm 3)), o 17 (.mv (.tm 4)), o 18 (.mv (.tm 0)), o 19 (.mv (.tm 4)), o 20 (.iaddrL 1 (.tm 18) (.tm 19)), o 21 (.load false 1 (.tm 20)), o 22 (.mxmn false [(.tm 21), (.k (.i .i64 40))]), o 23 (.mxmn true [(.k (.i .i64 1)), (.tm 22)]), o 24 (.iaddrL 1 (.tm 16) (.tm 17)), oN (.store 1 (.tm 24) (.tm 23))]
abbrev r_law15_Right_5 : List COp := [o 14 (.mv (.tm 4)), o 15 (.bin .add (.tm 14) (.k (.i .i64 1))), o 4 (.mv (.tm 15))]
def l_law15_Right_0 : C := (.seq (.seq (.reg r_law15_Right_3) (.cond (.tm 13) .skip (.exit 0))) (.seq (.blk 1 (.reg r_law15_Right_4)) (.reg r_law15_Right_5)))
abbrev r_law15_Right_6 : List COp := [o 25 (.mv (.tm 3)), o 26 (.mv (.tm 3)), o 27 (.iaddrL 1 (.tm 26) (.k (.i .i64 3))), o 28 (.load false 1 (.tm 27)), o 29 (.mv (.tm 3)), o 30 (.iaddrL 1 (.tm 29) (.k (.i .i64 1))), o 31 (.load false 1 (.tm 30)), o 32 (.bin .add (.tm 31) (.k (.i .i64 1))), o 33 (.mv (.tm 3)), o 34 (.iaddrL 1 (.tm 33) (.k (.i .i64 2))), o 35 (.load false 1 (.tm 34)), o 36 (.bin .add (.tm 35) (.k (.i .i64 1))), o 37 (.mxmn true [(.tm 28), (.tm 32), (.tm 36)]), o 38 (.iaddrL 1 (.tm 25) (.k (.i .i64 3))), oN (.store 1 (.tm 38) (.tm 37))]
abbrev r_law15_Right_7 : List COp := [o 39 (.mv (.tm 3)), o 2 (.mv (.tm 39))]
def b_law15_Right : C := (.seq (.reg r_law15_Right_0) (.seq (.reg r_law15_Right_1) (.seq (.seq (.reg r_law15_Right_2) (.blk 0 (.loop l_law15_Right_0))) (.seq (.draw r_law15_Right_6 [] []) (.seq (.reg r_law15_Right_7) .ret)))))
abbrev c_law15_Right : CF := ⟨40, [(.tm 2)], b_law15_Right⟩
/-! polliwog/polliwogref14.New -/
abbrev r_ref14_New_0 : List COp := [o 4 (.alloc [(.i .i64 0), (.i .i64 0), (.i .i64 0), (.i .i64 0), (.i .i64 0), (.i .i64 0), (.i .i64 0), (.s [])] 120)]
abbrev r_ref14_New_1 : List COp := [o 6 (.mv (.tm 1)), oC 7 n_ref01_Of [(.tm 6)], o 5 (.mv (.tm 7))]
abbrev r_ref14_New_2 : List COp := [o 8 (.mv (.tm 0)), o 9 (.mxmn false [(.tm 8), (.k (.i .i64 16))]), o 10 (.mxmn true [(.k (.i .i64 1)), (.tm 9)]), o 11 (.mv (.tm 5)), o 12 (.mv (.tm 5)), o 13 (.build [(.i .i64 0), (.i .i64 0), (.i .i64 0), (.i .i64 0), (.i .i64 0), (.i .i64 0), (.i .i64 0), (.s [])] [(0, 1, (.tm 10)), (1, 1, (.tm 11)), (2, 1, (.k (.i .i64 1))), (4, 1, (.k (.i .i64 (-1)))), (6, 1, (.tm 12))]), oN (.store 8 (.tm 4) (.tm 13))]
def b_ref14_New : C := (.seq (.reg r_ref14_New_0) (.seq (.reg r_ref14_New_1) (.seq (.reg r_ref14_New_2) .ret)))
abbrev c_ref14_New : CF := ⟨14, [(.cell 4 true 8)], b_ref14_New⟩
/-! polliwog/polliwogref15.New -/
abbrev r_ref15_New_0 : List COp := [o 2 (.alloc [(.sl none 0 (some 0) 0), (.sl none 0 (some 0) 0)] 122)]
abbrev r_ref15_New_1 : List COp := [o 3 (.mv (.tm 0)), o 4 (.bslice 1 [(.i .i64 0)] 5 [(0, (.k (.i .i64 0))), (1, (.k (.i .i64 0))), (2, (.k (.i .i64 0))), (3, (.k (.i .i64 0))), (4, (.k (.i .i64 0)))]), o 5 (.build [(.sl none 0 (some 0) 0), (.sl none 0 (some 0) 0)] [(0, 1, (.tm 3)), (1, 1, (.tm 4))]), oN (.store 2 (.tm 2) (.tm 5))]
def b_ref15_New : C := (.seq (.reg r_ref15_New_0) (.seq (.reg r_ref15_New_1) .ret))
abbrev c_ref15_New : CF := ⟨6, [(.cell 2 true 2)], b_ref15_New⟩
/-! (*polliwog/send.Send).Idle -/
abbrev r_send_Send_Idle_0 : List COp := [o 2 (.mv (.k (.b false)))]
abbrev r_send_Send_Idle_1 : List COp := [o 3 (.mv (.tm 0)), o 4 (.nilck (.tm 3)), o 5 (.faddr 7 (.tm 4)), o 6 (.load false 1 (.tm 5)), oC 7 n_ring_Ring_string_Len [(.tm 6)], o 8 (.bin .eql (.tm 7) (.k (.i .i64 0))), o 9 (.mv (.tm 8)), ⟨(some 10), (.op (.mv (.tm 0))), (some (9, true))⟩, ⟨(some 11), (.op (.nilck (.tm 10))), (some (9, true))⟩, ⟨(some 12), (.op (.faddr 8 (.tm 11))), (some (9, true))⟩, ⟨(some 13), (.op (.load false 1 (.tm 12))), (some (9, true))⟩, ⟨(some 14), (.op (.len .map (.tm 13))), (some (9, true))⟩, ⟨(some 15), (.op (.bin .eql (.tm 14) (.k (.i .i64 0)))), (some (9, true))⟩, o 16 (.pick (.tm 9) (.tm 15) (.k (.b false))), o 2 (.mv (.tm 16))]
def b_send_Send_Idle : C := (.seq (.reg r_send_Send_Idle_0) (.seq (.reg r_send_Send_Idle_1) .ret))
abbrev c_send_Send_Idle : CF := ⟨17, [(.tm 2)], b_send_Send_Idle⟩
/-! polliwog/rules.requests -/
abbrev r_rules_requests_0 : List COp := [o 0 (.mv (.k (.m none)))]
abbrev r_rules_requests_1 : List COp := [o 3 (.mkmap), o 1 (.mv (.tm 3))]
abbrev r_rules_requests_2 : List COp := [o 2 (.mv (.k (.i .i64 1)))]
abbrev r_rules_requests_3 : List COp := [o 4 (.mv (.tm 2)), o 5 (.bin .leq (.tm 4) (.k (.i .i64 10)))]
abbrev r_rules_requests_4 : List COp := [o 8 (.mv (.tm 1)), o 9 (.mv (.tm 2)), o 10 (.bslice 1 [(.i .i64 0)] 4 [(0, (.k (.i .i64 8))), (1, (.k (.i .i64 9))), (2, (.k (.i .i64 10))), (3, (.k (.i .i64 11)))]), oC 11 n_rules_row [(.tm 8), (.tm 9), (.k (.i .i64 1)), (.tm 10)]]
abbrev r_rules_requests_5 : List COp := [o 12 (.mv (.tm 2)), o 13 (.bin .neq (.tm 12) (.k (.i .i64 1))), o 14 (.mv (.tm 13)), ⟨(some 15), (.op (.mv (.tm 2))), (some (14, true))⟩, ⟨(some 16), (.op (.bin .neq (.tm 15) (.k (.i .i64 4)))), (some (14, true))⟩, o 17 (.pick (.tm 14) (.tm 16) (.k (.b false)))]
abbrev r_rules_requests_6 : List COp := [o 18 (.mv (.tm 1)), o 19 (.mv (.tm 2)), o 20 (.bslice 1 [(.i .i64 0)] 1 [(0, (.k (.i .i64 3)))]), oC 21 n_rules_row [(.tm 18), (.tm 19), (.k (.i .i64 1)), (.tm 20)]]
abbrev r_rules_requests_7 : List COp := [o 6 (.mv (.tm 2)), o 7 (.bin .add (.tm 6) (.k (.i .i64 1))), o 2 (.mv (.tm 7))]
def l_rules_requests_0 : C := (.seq (.seq (.reg r_rules_requests_3) (.cond (.tm 5) .skip (.exit 0))) (.seq (.blk 1 (.seq (.reg r_rules_requests_4) (.seq (.reg r_rules_requests_5) (.cond (.tm 17) (.reg r_rules_requests_6) .skip)))) (.reg r_rules_requests_7)))
abbrev r_rules_requests_8 : List COp := [o 22 (.mv (.tm 1)), o 23 (.bslice 1 [(.i .i64 0)] 1 [(0, (.k (.i .i64 1)))]), oC 24 n_rules_row [(.tm 22), (.k (.i .i64 1)), (.k (.i .i64 1)), (.tm 23)]]
abbrev r_rules_requests_9 : List COp := [o 25 (.mv (.tm 1)), o 26 (.bslice 1 [(.i .i64 0)] 1 [(0, (.k (.i .i64 1)))]), oC 27 n_rules_row [(.tm 25), (.k (.i .i64 4)), (.k (.i .i64 1)), (.tm 26)]]
abbrev r_rules_requests_10 : List COp := [o 28 (.mv (.tm 1)), o 29 (.bslice 1 [(.i .i64 0)] 1 [(0, (.k (.i .i64 2)))]), oC 30 n_rules_row [(.tm 28), (.k (.i .i64 3)), (.k (.i .i64 1)), (.tm 29)]]
abbrev r_rules_requests_11 : List COp := [o 31 (.mv (.tm 1)), o 32 (.bslice 1 [(.i .i64 0)] 1 [(0, (.k (.i .i64 5)))]), oC 33 n_rules_row [(.tm 31), (.k (.i .i64 6)), (.k (.i .i64 1)), (.tm 32)]]
abbrev r_rules_requests_12 : List COp := [o 34 (.mv (.tm 1)), o 35 (.bslice 1 [(.i .i64 0)] 2 [(0, (.k (.i .i64 4))), (1, (.k (.i .i64 6)))]), oC 36 n_rules_row [(.tm 34), (.k (.i .i64 8)), (.k (.i .i64 1)), (.tm 35)]]
abbrev r_rules_requests_13 : List COp := [o 37 (.mv (.tm 1)), o 38 (.bslice 1 [(.i .i64 0)] 1 [(0, (.k (.i .i64 6)))]), oC 39 n_rules_row [(.tm 37), (.k (.i .i64 9)), (.k (.i .i64 1)), (.tm 38)]]
abbrev r_rules_requests_14 : List COp := [o 40 (.mv (.tm 1)), o 41 (.bslice 1 [(.i .i64 0)] 2 [(0, (.k (.i .i64 4))), (1, (.k (.i .i64 7)))]), oC 42 n_rules_row [(.tm 40), (.k (.i .i64 10)), (.k (.i .i64 1)), (.tm 41)]]
abbrev r_rules_requests_15 : List COp := [o 43 (.mv (.tm 1)), o 0 (.mv (.tm 43))]
def b_rules_requests : C := (.seq (.reg r_rules_requests_0) (.seq (.reg r_rules_requests_1) (.seq (.seq (.reg r_rules_requests_2) (.blk 0 (.loop l_rules_requests_0))) (.seq (.reg r_rules_requests_8) (.seq (.reg r_rules_requests_9) (.seq (.reg r_rules_requests_10) (.seq (.reg r_rules_requests_11) (.seq (.reg r_rules_requests_12) (.seq (.reg r_rules_requests_13) (.seq (.reg r_rules_requests_14) (.seq (.reg r_rules_requests_15) .ret)))))))))))
abbrev c_rules_requests : CF := ⟨44, [(.tm 0)], b_rules_requests⟩
/-! (*polliwog/send.Send).Put -/
abbrev r_send_Send_Put_0 : List COp := [o 4 (.mv (.k (.i .i64 0)))]
abbrev r_send_Send_Put_1 : List COp := [o 5 (.mv (.tm 0)), o 6 (.nilck (.tm 5)), o 7 (.faddr 7 (.tm 6)), o 8 (.load false 1 (.tm 7)), o 9 (.mv (.tm 1)), oC 10 n_ring_Ring_string_Put [(.tm 8), (.tm 9)], o 4 (.mv (.tm 10))]
def b_send_Send_Put : C := (.seq (.reg r_send_Send_Put_0) (.seq (.reg r_send_Send_Put_1) .ret))
abbrev c_send_Send_Put : CF := ⟨11, [(.tm 4)], b_send_Send_Put⟩
/-! (*polliwog/pace.Pace).Busy -/
abbrev r_pace_Pace_Busy_0 : List COp := [o 2 (.mv (.tm 0)), o 3 (.nilck (.tm 2)), o 4 (.faddr 0 (.tm 3)), oC 5 n_timer_Bank_Runs [(.tm 4), (.k (.i .i64 2))], o 6 (.un .not (.tm 5)), o 7 (.mv (.tm 6)), ⟨(some 8), (.op (.mv (.tm 0))), (some (7, true))⟩, ⟨(some 9), (.op (.nilck (.tm 8))), (some (7, true))⟩, ⟨(some 10), (.op (.faddr 0 (.tm 9))), (some (7, true))⟩, ⟨(some 11), (.callf n_timer_Bank_Runs [(.tm 10), (.k (.i .i64 4))]), (some (7, true))⟩, ⟨(some 12), (.op (.un .not (.tm 11))), (some (7, true))⟩, o 13 (.pick (.tm 7) (.tm 12) (.k (.b false)))]
abbrev r_pace_Pace_Busy_1 : List COp := [o 14 (.mv (.tm 0)), o 15 (.bslice 1 [(.i .i64 0)] 2 [(0, (.k (.i .i64 2))), (1, (.k (.i .i64 4)))]), oC 16 n_pace_Pace_stop [(.tm 14), (.tm 15)]]
abbrev r_pace_Pace_Busy_2 : List COp := [o 17 (.mv (.tm 0)), o 18 (.nilck (.tm 17)), o 19 (.faddr 0 (.tm 18)), o 20 (.mv (.tm 0)), o 21 (.nilck (.tm 20)), o 22 (.faddr 5 (.tm 21)), o 23 (.faddr 1 (.tm 22)), o 24 (.load false 1 (.tm 23)), oC 25 n_timer_Bank_Start [(.tm 19), (.k (.i .i64 1)), (.tm 24)]]
abbrev r_pace_Pace_Busy_3 : List COp := [o 26 (.mv (.tm 0)), oC 27 n_pace_Pace_watch [(.tm 26)]]
def b_pace_Pace_Busy : C := (.seq (.seq (.reg r_pace_Pace_Busy_0) (.cond (.tm 13) .ret .skip)) (.seq (.reg r_pace_Pace_Busy_1) (.seq (.draw r_pace_Pace_Busy_2 [] []) (.reg r_pace_Pace_Busy_3))))
abbrev c_pace_Pace_Busy : CF := ⟨28, [], b_pace_Pace_Busy⟩
/-! (*polliwog/ring.Ring[polliwog/pdu.PDU]).Put -/
abbrev r_ring_Ring_pdu_PDU_Put_0 : List COp := [o 3 (.box (.tm 1)), o 4 (.mv (.k (.i .i64 0)))]
abbrev r_ring_Ring_pdu_PDU_Put_1 : List COp := [o 5 (.mv (.tm 0)), oC 6 n_ring_Ring_pdu_PDU_Room [(.tm 5)], o 7 (.bin .eql (.tm 6) (.k (.i .i64 0)))]
abbrev r_ring_Ring_pdu_PDU_Put_2 : List COp := [o 4 (.mv (.k (.i .i64 7)))]
abbrev r_ring_Ring_pdu_PDU_Put_3 : List COp := [o 8 (.mv (.tm 0)), o 9 (.nilck (.tm 8)), o 10 (.faddr 2 (.tm 9)), o 11 (.load false 1 (.tm 10)), o 12 (.mv (.tm 0)), o 13 (.nilck (.tm 12)), o 14 (.faddr 0 (.tm 13)), o 15 (.load false 1 (.tm 14)), o 16 (.len .slice (.tm 15)), o 17 (.bin .eql (.tm 11) (.tm 16))]
abbrev r_ring_Ring_pdu_PDU_Put_4 : List COp := [o 18 (.mv (.tm 0)), oC 19 n_ring_Ring_pdu_PDU_grow [(.tm 18)]]
abbrev r_ring_Ring_pdu_PDU_Put_5 : List COp := [o 20 (.mv (.tm 0)), o 21 (.nilck (.tm 20)), o 22 (.faddr 0 (.tm 21)), o 23 (.load false 1 (.tm 22)), o 24 (.mv (.tm 0)), o 25 (.mv (.tm 0)), o 26 (.nilck (.tm 25)), o 27 (.faddr 2 (.tm 26)), o 28 (.load false 1 (.tm 27)), o 30 (.load true 8 (.tm 3)), oC 29 n_ring_Ring_pdu_PDU_place [(.tm 24), (.tm 28)], o 31 (.iaddrL 8 (.tm 23) (.tm 29)), oN (.store 8 (.tm 31) (.tm 30))]
abbrev r_ring_Ring_pdu_PDU_Put_6 : List COp := [o 32 (.mv (.tm 0)), o 33 (.nilck (.tm 32)), o 34 (.faddr 2 (.tm 33)), o 35 (.load false 1 (.tm 34)), o 36 (.bin .add (.tm 35) (.k (.i .i64 1))), o 37 (.nilck (.tm 32)), o 38 (.faddr 2 (.tm 37)), oN (.store 1 (.tm 38) (.tm 36))]
abbrev r_ring_Ring_pdu_PDU_Put_7 : List COp := [o 4 (.mv (.k (.i .i64 0)))]
def b_ring_Ring_pdu_PDU_Put : C := (.seq (.reg r_ring_Ring_pdu_PDU_Put_0) (.seq (.seq (.reg r_ring_Ring_pdu_PDU_Put_1) (.cond (.tm 7) (.seq (.reg r_ring_Ring_pdu_PDU_Put_2) .ret) .skip)) (.seq (.seq (.draw r_ring_Ring_pdu_PDU_Put_3 [] []) (.cond (.tm 17) (.reg r_ring_Ring_pdu_PDU_Put_4) .skip)) (.seq (.draw r_ring_Ring_pdu_PDU_Put_5 [(3, [11]), (9, [11])] []) (.seq (.reg r_ring_Ring_pdu_PDU_Put_6) (.seq (.reg r_ring_Ring_pdu_PDU_Put_7) .ret))))))
abbrev c_ring_Ring_pdu_PDU_Put : CF := ⟨39, [(.tm 4)], b_ring_Ring_pdu_PDU_Put⟩
/-! (*polliwog/recv.Recv).Take -/
abbrev r_recv_Recv_Take_0 : List COp := [o 4 (.mv (.k (.sl none 0 (some 0) 0)))]
abbrev r_recv_Recv_Take_1 : List COp := [o 6 (.mv (.tm 1)), o 7 (.mv (.tm 0)), o 8 (.nilck (.tm 7)), o 9 (.faddr 5 (.tm 8)), o 10 (.load false 1 (.tm 9)), o 11 (.len .slice (.tm 10)), o 12 (.mxmn false [(.tm 6), (.tm 11)]), o 13 (.mxmn true [(.k (.i .i64 0)), (.tm 12)]), o 1 (.mv (.tm 13))]
abbrev r_recv_Recv_Take_2 : List COp := [o 14 (.mv (.tm 0)), o 15 (.nilck (.tm 14)), o 16 (.faddr 5 (.tm 15)), o 17 (.load false 1 (.tm 16)), o 18 (.mv (.tm 1)), o 19 (.sliceL 1 (.tm 17) none (some (.tm 18)) none), oC 20 n_slices_Clone_Lstring_string [(.tm 19)], o 5 (.mv (.tm 20))]
abbrev r_recv_Recv_Take_3 : List COp := [o 21 (.mv (.tm 0)), o 22 (.mv (.tm 0)), o 23 (.nilck (.tm 22)), o 24 (.faddr 5 (.tm 23)), o 25 (.load false 1 (.tm 24)), o 26 (.mv (.tm 1)), o 27 (.sliceL 1 (.tm 25) (some (.tm 26)) none none), oC 28 n_slices_Clone_Lstring_string [(.tm 27)], o 29 (.nilck (.tm 21)), o 30 (.faddr 5 (.tm 29)), oN (.store 1 (.tm 30) (.tm 28))]
abbrev r_recv_Recv_Take_4 : List COp := [o 31 (.mv (.tm 5)), o 4 (.mv (.tm 31))]
def b_recv_Recv_Take : C := (.seq (.reg r_recv_Recv_Take_0) (.seq (.reg r_recv_Recv_Take_1) (.seq (.reg r_recv_Recv_Take_2) (.seq (.reg r_recv_Recv_Take_3) (.seq (.reg r_recv_Recv_Take_4) .ret)))))
abbrev c_recv_Recv_Take : CF := ⟨32, [(.tm 4)], b_recv_Recv_Take⟩
/-! (*polliwog/conn.Conn).Request -/
abbrev r_conn_Conn_Request_0 : List COp := [o 4 (.box (.tm 1)), o 5 (.box (.tm 2)), o 6 (.alloc [(.sl none 0 (some 0) 0), (.sl none 0 (some 0) 0), (.b false), (.b false), (.i .u32 0), (.i .i64 0)] 170), o 7 (.mv (.k (.i .i64 0)))]
abbrev r_conn_Conn_Request_1 : List COp := [o 9 (.load false 1 (.tm 4)), o 10 (.bin .lss (.tm 9) (.k (.i .i64 1))), o 11 (.mv (.tm 10)), ⟨(some 12), (.op (.load false 1 (.tm 4))), (some (11, false))⟩, ⟨(some 13), (.op (.bin .gtr (.tm 12) (.k (.i .i64 6)))), (some (11, false))⟩, o 14 (.pick (.tm 11) (.k (.b true)) (.tm 13)), o 8 (.mv (.tm 14))]
abbrev r_conn_Conn_Request_2 : List COp := [o 15 (.build [(.sl none 0 (some 0) 0), (.sl none 0 (some 0) 0), (.b false), (.b false), (.i .u32 0), (.i .i64 0)] []), oN (.store 6 (.tm 6) (.tm 15)), o 7 (.mv (.k (.i .i64 10)))]
abbrev r_conn_Conn_Request_3 : List COp := [o 17 (.load false 1 (.tm 5)), o 18 (.len .str (.tm 17)), o 19 (.bin .gtr (.tm 18) (.k (.i .i64 64))), o 20 (.mv (.tm 19)), ⟨(some 21), (.op (.load false 1 (.tm 4))), (some (20, true))⟩, ⟨(some 22), (.op (.bin .eql (.tm 21) (.k (.i .i64 1)))), (some (20, true))⟩, ⟨(some 23), (.op (.mv (.tm 22))), (some (20, true))⟩, ⟨(some 24), (.op (.load false 1 (.tm 4))), (some (23, false))⟩, ⟨(some 25), (.op (.bin .eql (.tm 24) (.k (.i .i64 3)))), (some (23, false))⟩, ⟨(some 26), (.op (.pick (.tm 23) (.k (.b true)) (.tm 25))), (some (20, true))⟩, ⟨(some 27), (.op (.mv (.tm 26))), (some (20, true))⟩, ⟨(some 28), (.op (.load false 1 (.tm 4))), (some (27, false))⟩, ⟨(some 29), (.op (.bin .eql (.tm 28) (.k (.i .i64 4)))), (some (27, false))⟩, ⟨(some 30), (.op (.pick (.tm 27) (.k (.b true)) (.tm 29))), (some (20, true))⟩, o 31 (.pick (.tm 20) (.tm 30) (.k (.b false))), o 16 (.mv (.tm 31))]
abbrev r_conn_Conn_Request_4 : List COp := [o 32 (.build [(.sl none 0 (some 0) 0), (.sl none 0 (some 0) 0), (.b false), (.b false), (.i .u32 0), (.i .i64 0)] []), oN (.store 6 (.tm 6) (.tm 32)), o 7 (.mv (.k (.i .i64 6)))]
abbrev r_conn_Conn_Request_5 : List COp := [o 34 (.mv (.tm 0)), o 35 (.nilck (.tm 34)), o 36 (.faddr 2 (.tm 35)), o 37 (.faddr 0 (.tm 36)), o 38 (.load false 1 (.tm 37)), o 39 (.load false 1 (.tm 4)), oC 40 n_rules_May [(.tm 38), (.tm 39)], o 41 (.un .not (.tm 40)), o 33 (.mv (.tm 41))]
abbrev r_conn_Conn_Request_6 : List COp := [o 42 (.build [(.sl none 0 (some 0) 0), (.sl none 0 (some 0) 0), (.b false), (.b false), (.i .u32 0), (.i .i64 0)] []), oN (.store 6 (.tm 6) (.tm 42)), o 7 (.mv (.k (.i .i64 8)))]
abbrev r_conn_Conn_Request_7 : List COp := [o 43 (.mv (.tm 0)), o 44 (.mkfn n_conn_Conn_Request_1 [(.tm 4), (.tm 5)]), oC 45 n_conn_Conn_done [(.tm 43), (.tm 44)], oN (.store 6 (.tm 6) (.tm 45)), o 7 (.mv (.k (.i .i64 0)))]
def b_conn_Conn_Request : C := (.seq (.reg r_conn_Conn_Request_0) (.seq (.blk 0 (.seq (.reg r_conn_Conn_Request_1) (.cond (.tm 8) (.seq (.reg r_conn_Conn_Request_2) .ret) (.seq (.reg r_conn_Conn_Request_3) (.cond (.tm 16) (.seq (.reg r_conn_Conn_Request_4) .ret) (.seq (.draw r_conn_Conn_Request_5 [] []) (.cond (.tm 33) (.seq (.reg r_conn_Conn_Request_6) .ret) .skip))))))) (.seq (.reg r_conn_Conn_Request_7) .ret)))
abbrev c_conn_Conn_Request : CF := ⟨46, [(.cell 6 true 6), (.tm 7)], b_conn_Conn_Request⟩
/-! (*polliwog/node.Node).bring -/
abbrev r_node_Node_bring_0 : List COp := [o 3 (.box (.tm 1)), o 4 (.mv (.k (.sl none 0 (some 0) 0)))]
abbrev r_node_Node_bring_1 : List COp := [o 7 (.faddr 1 (.tm 3)), o 8 (.load false 1 (.tm 7)), o 9 (.len .slice (.tm 8)), o 10 (.mv (.k (.i .i64 0)))]
abbrev r_node_Node_bring_2 : List COp := [o 11 (.bin .lss (.tm 10) (.tm 9))]
abbrev r_node_Node_bring_3 : List COp := [o 12 (.iaddrL 8 (.tm 8) (.tm 10)), o 13 (.load true 8 (.tm 12)), o 6 (.alloc [(.i .i64 0), (.i .i64 0), (.i .u32 0), (.i .u32 0), (.i .u32 0), (.sl none 0 (some 0) 0), (.b false), (.s [])] 59), oN (.store 8 (.tm 6) (.tm 13))]
abbrev r_node_Node_bring_4 : List COp := [o 14 (.mv (.tm 0)), o 15 (.mv (.tm 0)), o 16 (.nilck (.tm 15)), o 17 (.faddr 15 (.tm 16)), o 18 (.load false 1 (.tm 17)), o 19 (.mkfn n_node_Node_bring_1 [(.tm 6)]), oC 20 n_slices_DeleteFunc_Lpdu_PDU_pdu_PDU [(.tm 18), (.tm 19)], o 21 (.nilck (.tm 14)), o 22 (.faddr 15 (.tm 21)), oN (.store 1 (.tm 22) (.tm 20))]
abbrev r_node_Node_bring_5 : List COp := [o 23 (.mv (.tm 0)), o 24 (.mv (.tm 0)), o 25 (.nilck (.tm 24)), o 26 (.faddr 15 (.tm 25)), o 27 (.load false 1 (.tm 26)), o 28 (.load true 8 (.tm 6)), o 29 (.bslice 8 [(.i .i64 0), (.i .i64 0), (.i .u32 0), (.i .u32 0), (.i .u32 0), (.sl none 0 (some 0) 0), (.b false), (.s [])] 1 [(0, (.tm 28))]), o 30 (.append false 8 80 (.tm 27) (.tm 29)), o 31 (.nilck (.tm 23)), o 32 (.faddr 15 (.tm 31)), oN (.store 1 (.tm 32) (.tm 30))]
abbrev r_node_Node_bring_6 : List COp := [o 33 (.bin .add (.tm 10) (.k (.i .i64 1))), o 10 (.mv (.tm 33))]
def l_node_Node_bring_0 : C := (.seq (.reg r_node_Node_bring_2) (.seq (.cond (.tm 11) .skip (.exit 0)) (.seq (.blk 1 (.seq (.reg r_node_Node_bring_3) (.seq (.reg r_node_Node_bring_4) (.draw r_node_Node_bring_5 [] [])))) (.reg r_node_Node_bring_6))))
abbrev r_node_Node_bring_7 : List COp := [o 34 (.faddr 5 (.tm 3)), o 35 (.load false 1 (.tm 34))]
abbrev r_node_Node_bring_8 : List COp := [o 37 (.bin .eql (.tm 35) (.k (.i .i64 1))), o 36 (.mv (.tm 37))]
abbrev r_node_Node_bring_9 : List COp := [o 38 (.mv (.tm 0)), o 39 (.nilck (.tm 38)), o 40 (.faddr 12 (.tm 39)), o 41 (.load false 1 (.tm 40)), oC 42 n_pace_Pace_Again [(.tm 41)]]
abbrev r_node_Node_bring_10 : List COp := [o 44 (.bin .eql (.tm 35) (.k (.i .i64 2))), o 43 (.mv (.tm 44))]
abbrev r_node_Node_bring_11 : List COp := [o 45 (.mv (.tm 0)), o 46 (.nilck (.tm 45)), o 47 (.faddr 12 (.tm 46)), o 48 (.load false 1 (.tm 47)), oC 49 n_pace_Pace_Enough [(.tm 48)]]
abbrev r_node_Node_bring_12 : List COp := [o 50 (.faddr 3 (.tm 3)), o 51 (.load false 1 (.tm 50))]
abbrev r_node_Node_bring_13 : List COp := [o 52 (.mv (.tm 0)), o 53 (.nilck (.tm 52)), o 54 (.faddr 12 (.tm 53)), o 55 (.load false 1 (.tm 54)), oC 56 n_pace_Pace_End [(.tm 55)]]
abbrev r_node_Node_bring_14 : List COp := [o 57 (.mv (.tm 0)), o 58 (.mv (.tm 0)), o 59 (.nilck (.tm 58)), o 60 (.faddr 13 (.tm 59)), o 61 (.load false 1 (.tm 60)), oC 62 n_send_Send_Left [(.tm 61)], o 63 (.nilck (.tm 57)), o 64 (.faddr 21 (.tm 63)), oN (.store 1 (.tm 64) (.tm 62))]
abbrev r_node_Node_bring_15 : List COp := [o 65 (.mv (.tm 0)), o 66 (.mv (.tm 0)), o 67 (.nilck (.tm 65)), o 68 (.faddr 13 (.tm 67)), oN (.store 1 (.tm 68) (.k (.p none))), o 69 (.nilck (.tm 66)), o 70 (.faddr 14 (.tm 69)), oN (.store 1 (.tm 70) (.k (.p none)))]
abbrev r_node_Node_bring_16 : List COp := [o 71 (.mv (.tm 0)), oC 72 n_node_Node_over [(.tm 71)]]
abbrev r_node_Node_bring_17 : List COp := [o 73 (.faddr 2 (.tm 3)), o 74 (.load false 1 (.tm 73))]
abbrev r_node_Node_bring_18 : List COp := [o 75 (.mv (.tm 0)), o 76 (.mv (.tm 0)), o 77 (.mv (.tm 0)), o 78 (.nilck (.tm 77)), o 79 (.faddr 0 (.tm 78)), o 80 (.faddr 5 (.tm 79)), o 81 (.load false 1 (.tm 80)), o 82 (.mv (.tm 0)), o 83 (.nilck (.tm 82)), o 84 (.faddr 0 (.tm 83)), o 85 (.faddr 2 (.tm 84)), o 86 (.load false 1 (.tm 85)), o 87 (.mv (.tm 0)), o 88 (.nilck (.tm 87)), o 89 (.faddr 0 (.tm 88)), o 90 (.faddr 4 (.tm 89)), o 91 (.load false 1 (.tm 90)), o 93 (.mv (.tm 0)), o 94 (.nilck (.tm 93)), o 95 (.faddr 0 (.tm 94)), o 96 (.faddr 5 (.tm 95)), o 97 (.load false 1 (.tm 96)), o 98 (.mv (.tm 0)), o 99 (.nilck (.tm 98)), o 100 (.faddr 0 (.tm 99)), o 101 (.faddr 1 (.tm 100)), o 102 (.load false 1 (.tm 101)), oC 92 n_send_New [(.tm 81), (.tm 86), (.tm 91)], oC 103 n_recv_New [(.tm 97), (.tm 102)], o 104 (.nilck (.tm 75)), o 105 (.faddr 13 (.tm 104)), oN (.store 1 (.tm 105) (.tm 92)), o 106 (.nilck (.tm 76)), o 107 (.faddr 14 (.tm 106)), oN (.store 1 (.tm 107) (.tm 103))]
abbrev r_node_Node_bring_19 : List COp := [o 108 (.mv (.tm 0)), o 109 (.nilck (.tm 108)), o 110 (.faddr 13 (.tm 109)), o 111 (.load false 1 (.tm 110)), o 112 (.faddr 4 (.tm 3)), o 113 (.load false 1 (.tm 112)), oC 114 n_send_Send_Open [(.tm 111), (.tm 113)]]
abbrev r_node_Node_bring_20 : List COp := [o 115 (.mv (.tm 0)), o 116 (.nilck (.tm 115)), o 117 (.faddr 12 (.tm 116)), o 118 (.load false 1 (.tm 117)), oC 119 n_pace_Pace_Begin [(.tm 118)]]
abbrev r_node_Node_bring_21 : List COp := [o 120 (.mv (.tm 0)), oC 121 n_node_Node_over [(.tm 120)]]
abbrev r_node_Node_bring_22 : List COp := [o 122 (.faddr 0 (.tm 3)), o 123 (.load false 1 (.tm 122)), o 4 (.mv (.tm 123))]
def b_node_Node_bring : C := (.seq (.reg r_node_Node_bring_0) (.seq (.seq (.reg r_node_Node_bring_1) (.blk 0 (.loop l_node_Node_bring_0))) (.seq (.seq (.reg r_node_Node_bring_7) (.blk 2 (.seq (.reg r_node_Node_bring_8) (.cond (.tm 36) (.reg r_node_Node_bring_9) (.seq (.reg r_node_Node_bring_10) (.cond (.tm 43) (.reg r_node_Node_bring_11) .skip)))))) (.seq (.seq (.reg r_node_Node_bring_12) (.cond (.tm 51) (.seq (.reg r_node_Node_bring_13) (.seq (.reg r_node_Node_bring_14) (.seq (.reg r_node_Node_bring_15) (.reg r_node_Node_bring_16)))) .skip)) (.seq (.seq (.reg r_node_Node_bring_17) (.cond (.tm 74) (.seq (.draw r_node_Node_bring_18 [(21, [28]), (26, [28])] []) (.seq (.draw r_node_Node_bring_19 [] []) (.seq (.reg r_node_Node_bring_20) (.reg r_node_Node_bring_21)))) .skip)) (.seq (.reg r_node_Node_bring_22) .ret))))))
abbrev c_node_Node_bring : CF := ⟨124, [(.tm 4)], b_node_Node_bring⟩
/-! (*polliwog/send.Send).Lacks -/
abbrev r_send_Send_Lacks_0 : List COp := [o 2 (.mv (.k (.b false)))]
abbrev r_send_Send_Lacks_1 : List COp := [o 3 (.mv (.tm 0)), o 4 (.nilck (.tm 3)), o 5 (.faddr 7 (.tm 4)), o 6 (.load false 1 (.tm 5)), oC 7 n_ring_Ring_string_Len [(.tm 6)], o 8 (.bin .gtr (.tm 7) (.k (.i .i64 0))), o 9 (.mv (.tm 8)), ⟨(some 10), (.op (.mv (.tm 0))), (some (9, true))⟩, ⟨(some 11), (.op (.nilck (.tm 10))), (some (9, true))⟩, ⟨(some 12), (.op (.faddr 0 (.tm 11))), (some (9, true))⟩, ⟨(some 13), (.op (.load false 1 (.tm 12))), (some (9, true))⟩, ⟨(some 14), (.op (.mv (.tm 0))), (some (9, true))⟩, ⟨(some 15), (.op (.nilck (.tm 14))), (some (9, true))⟩, ⟨(some 16), (.op (.faddr 2 (.tm 15))), (some (9, true))⟩, ⟨(some 17), (.op (.load false 1 (.tm 16))), (some (9, true))⟩, ⟨(some 18), (.op (.bin .eql (.tm 13) (.tm 17))), (some (9, true))⟩, o 19 (.pick (.tm 9) (.tm 18) (.k (.b false))), o 2 (.mv (.tm 19))]
def b_send_Send_Lacks : C := (.seq (.reg r_send_Send_Lacks_0) (.seq (.draw r_send_Send_Lacks_1 [] []) .ret))
abbrev c_send_Send_Lacks : CF := ⟨20, [(.tm 2)], b_send_Send_Lacks⟩
/-! polliwog/node.report -/
abbrev r_node_report_0 : List COp := [o 4 (.mv (.k (.sl none 0 (some 0) 0)))]
abbrev r_node_report_1 : List COp := [o 5 (.mv (.tm 0)), o 6 (.mv (.tm 1)), o 7 (.build [(.i .i64 0), (.s []), (.b false), (.i .u8 0), (.i .i64 0)] [(0, 1, (.k (.i .i64 12))), (3, 1, (.tm 5)), (4, 1, (.tm 6))]), o 8 (.bslice 5 [(.i .i64 0), (.s []), (.b false), (.i .u8 0), (.i .i64 0)] 1 [(0, (.tm 7))]), o 4 (.mv (.tm 8))]
def b_node_report : C := (.seq (.reg r_node_report_0) (.seq (.reg r_node_report_1) .ret))
abbrev c_node_report : CF := ⟨9, [(.tm 4)], b_node_report⟩
/-! slices.Clone[[]polliwog/pdu.PDU,polliwog/pdu.PDU] -/
abbrev r_slices_Clone_Lpdu_PDU_pdu_PDU_0 : List COp := [o 2 (.mv (.k (.sl none 0 (some 0) 0)))]
abbrev r_slices_Clone_Lpdu_PDU_pdu_PDU_1 : List COp := [o 3 (.mv (.tm 0)), o 4 (.eq false .slice (.tm 3) (.k (.sl none 0 (some 0) 0)))]
abbrev r_slices_Clone_Lpdu_PDU_pdu_PDU_2 : List COp := [o 2 (.mv (.k (.sl none 0 (some 0) 0)))]
abbrev r_slices_Clone_Lpdu_PDU_pdu_PDU_3 : List COp := [o 5 (.bslice 8 [(.i .i64 0), (.i .i64 0), (.i .u32 0), (.i .u32 0), (.i .u32 0), (.sl none 0 (some 0) 0), (.b false), (.s [])] 0 []), o 6 (.mv (.tm 0)), o 7 (.append false 8 80 (.tm 5) (.tm 6)), o 2 (.mv (.tm 7))]
def b_slices_Clone_Lpdu_PDU_pdu_PDU : C := (.seq (.reg r_slices_Clone_Lpdu_PDU_pdu_PDU_0) (.seq (.seq (.reg r_slices_Clone_Lpdu_PDU_pdu_PDU_1) (.cond (.tm 4) (.seq (.reg r_slices_Clone_Lpdu_PDU_pdu_PDU_2) .ret) .skip)) (.seq (.reg r_slices_Clone_Lpdu_PDU_pdu_PDU_3) .ret)))
abbrev c_slices_Clone_Lpdu_PDU_pdu_PDU : CF := ⟨8, [(.tm 2)], b_slices_Clone_Lpdu_PDU_pdu_PDU⟩
/-! (*polliwog/ring.Ring[polliwog/pdu.PDU]).Take -/
abbrev r_ring_Ring_pdu_PDU_Take_0 : List COp := [o 2 (.alloc [(.i .i64 0), (.i .i64 0), (.i .u32 0), (.i .u32 0), (.i .u32 0), (.sl none 0 (some 0) 0), (.b false), (.s [])] 59), o 3 (.mv (.k (.i .i64 0)))]
abbrev r_ring_Ring_pdu_PDU_Take_1 : List COp := [o 8 (.mv (.tm 0)), oC 9 n_ring_Ring_pdu_PDU_First [(.tm 8)], o 7 (.mv (.tm 9)), o 10 (.extract (.tm 7) 0), o 11 (.extract (.tm 7) 1), o 4 (.alloc [(.i .i64 0), (.i .i64 0), (.i .u32 0), (.i .u32 0), (.i .u32 0), (.sl none 0 (some 0) 0), (.b false), (.s [])] 59), oN (.store 8 (.tm 4) (.tm 10)), o 5 (.mv (.tm 11))]
abbrev r_ring_Ring_pdu_PDU_Take_2 : List COp := [o 12 (.mv (.tm 5)), o 13 (.bin .eql (.tm 12) (.k (.i .i64 0)))]
abbrev r_ring_Ring_pdu_PDU_Take_3 : List COp := [o 6 (.alloc [(.i .i64 0), (.i .i64 0), (.i .u32 0), (.i .u32 0), (.i .u32 0), (.sl none 0 (some 0) 0), (.b false), (.s [])] 59)]
abbrev r_ring_Ring_pdu_PDU_Take_4 : List COp := [o 14 (.mv (.tm 0)), o 15 (.nilck (.tm 14)), o 16 (.faddr 0 (.tm 15)), o 17 (.load false 1 (.tm 16)), o 18 (.mv (.tm 0)), o 19 (.nilck (.tm 18)), o 20 (.faddr 1 (.tm 19)), o 21 (.load false 1 (.tm 20)), o 22 (.load true 8 (.tm 6)), o 23 (.iaddrL 8 (.tm 17) (.tm 21)), oN (.store 8 (.tm 23) (.tm 22))]
abbrev r_ring_Ring_pdu_PDU_Take_5 : List COp := [o 24 (.mv (.tm 0)), o 25 (.mv (.tm 0)), oC 26 n_ring_Ring_pdu_PDU_place [(.tm 25), (.k (.i .i64 1))], o 27 (.nilck (.tm 24)), o 28 (.faddr 1 (.tm 27)), oN (.store 1 (.tm 28) (.tm 26))]
abbrev r_ring_Ring_pdu_PDU_Take_6 : List COp := [o 29 (.mv (.tm 0)), o 30 (.nilck (.tm 29)), o 31 (.faddr 2 (.tm 30)), o 32 (.load false 1 (.tm 31)), o 33 (.bin .sub (.tm 32) (.k (.i .i64 1))), o 34 (.nilck (.tm 29)), o 35 (.faddr 2 (.tm 34)), oN (.store 1 (.tm 35) (.tm 33))]
abbrev r_ring_Ring_pdu_PDU_Take_7 : List COp := [o 36 (.load true 8 (.tm 4)), o 37 (.mv (.tm 5)), oN (.store 8 (.tm 2) (.tm 36)), o 3 (.mv (.tm 37))]
def b_ring_Ring_pdu_PDU_Take : C := (.seq (.reg r_ring_Ring_pdu_PDU_Take_0) (.seq (.reg r_ring_Ring_pdu_PDU_Take_1) (.seq (.seq (.reg r_ring_Ring_pdu_PDU_Take_2) (.cond (.tm 13) (.seq (.reg r_ring_Ring_pdu_PDU_Take_3) (.seq (.draw r_ring_Ring_pdu_PDU_Take_4 [] []) (.seq (.reg r_ring_Ring_pdu_PDU_Take_5) (.reg r_ring_Ring_pdu_PDU_Take_6)))) .skip)) (.seq (.reg r_ring_Ring_pdu_PDU_Take_7) .ret))))
abbrev c_ring_Ring_pdu_PDU_Take : CF := ⟨38, [(.cell 2 true 8), (.tm 3)], b_ring_Ring_pdu_PDU_Take⟩
/-! (*polliwog/recv.Recv).Stat -/
abbrev r_recv_Recv_Stat_0 : List COp := [o 2 (.mv (.k (.sl none 0 (some 0) 0))), o 3 (.mv (.k (.i .u32 0))), o 4 (.mv (.k (.i .u32 0)))]
abbrev r_recv_Recv_Stat_1 : List COp := [o 5 (.mv (.tm 0)), oC 6 n_recv_Recv_renew [(.tm 5)]]
abbrev r_recv_Recv_Stat_2 : List COp := [o 7 (.mv (.tm 0)), o 8 (.nilck (.tm 7)), o 9 (.faddr 0 (.tm 8)), o 10 (.load false 1 (.tm 9)), o 11 (.mv (.tm 0)), o 14 (.mv (.tm 0)), o 15 (.nilck (.tm 14)), o 16 (.faddr 0 (.tm 15)), o 17 (.load false 1 (.tm 16)), o 18 (.mv (.tm 0)), o 19 (.nilck (.tm 18)), o 20 (.faddr 2 (.tm 19)), o 21 (.load false 1 (.tm 20)), oC 12 n_recv_Recv_missing [(.tm 11)], oC 13 n_gaps_List [(.tm 10), (.tm 12)], o 2 (.mv (.tm 13)), o 3 (.mv (.tm 17)), o 4 (.mv (.tm 21))]
def b_recv_Recv_Stat : C := (.seq (.reg r_recv_Recv_Stat_0) (.seq (.reg r_recv_Recv_Stat_1) (.seq (.draw r_recv_Recv_Stat_2 [(3, [14]), (8, [14, 15]), (12, [14, 15])] []) .ret)))
abbrev c_recv_Recv_Stat : CF := ⟨22, [(.tm 2), (.tm 3), (.tm 4)], b_recv_Recv_Stat⟩
/-! (*polliwog/recv.Recv).Gap -/
abbrev r_recv_Recv_Gap_0 : List COp := [o 2 (.mv (.k (.sl none 0 (some 0) 0))), o 3 (.mv (.k (.i .u32 0))), o 4 (.mv (.k (.i .u32 0))), o 5 (.mv (.k (.b false)))]
abbrev r_recv_Recv_Gap_1 : List COp := [o 7 (.mv (.tm 0)), o 8 (.nilck (.tm 7)), o 9 (.faddr 6 (.tm 8)), o 10 (.load false 1 (.tm 9)), o 11 (.len .slice (.tm 10)), o 12 (.bin .gtr (.tm 11) (.k (.i .i64 0)))]
abbrev r_recv_Recv_Gap_2 : List COp := [o 13 (.mv (.tm 0)), o 14 (.mv (.tm 0)), o 15 (.nilck (.tm 14)), o 16 (.faddr 6 (.tm 15)), o 17 (.load false 1 (.tm 16)), o 18 (.iaddrL 2 (.tm 17) (.k (.i .i64 0))), o 19 (.load true 2 (.tm 18)), oC 20 n_recv_Recv_still [(.tm 13), (.tm 19)], o 6 (.mv (.tm 20))]
abbrev r_recv_Recv_Gap_3 : List COp := [o 21 (.mv (.tm 0)), o 22 (.mv (.tm 0)), o 23 (.nilck (.tm 22)), o 24 (.faddr 6 (.tm 23)), o 25 (.load false 1 (.tm 24)), o 26 (.sliceL 2 (.tm 25) (some (.k (.i .i64 1))) none none), o 27 (.nilck (.tm 21)), o 28 (.faddr 6 (.tm 27)), oN (.store 1 (.tm 28) (.tm 26))]
abbrev r_recv_Recv_Gap_4 : List COp := [o 29 (.mv (.tm 6)), o 30 (.len .slice (.tm 29)), o 31 (.bin .gtr (.tm 30) (.k (.i .i64 0)))]
abbrev r_recv_Recv_Gap_5 : List COp := [o 32 (.mv (.tm 0)), oC 33 n_recv_Recv_renew [(.tm 32)]]
abbrev r_recv_Recv_Gap_6 : List COp := [o 34 (.mv (.tm 0)), o 35 (.nilck (.tm 34)), o 36 (.faddr 0 (.tm 35)), o 37 (.load false 1 (.tm 36)), o 38 (.mv (.tm 6)), o 39 (.sliceL 2 (.tm 38) none (some (.k (.i .i64 1))) none), o 41 (.mv (.tm 0)), o 42 (.nilck (.tm 41)), o 43 (.faddr 0 (.tm 42)), o 44 (.load false 1 (.tm 43)), o 45 (.mv (.tm 0)), o 46 (.nilck (.tm 45)), o 47 (.faddr 2 (.tm 46)), o 48 (.load false 1 (.tm 47)), oC 40 n_gaps_List [(.tm 37), (.tm 39)], o 2 (.mv (.tm 40)), o 3 (.mv (.tm 44)), o 4 (.mv (.tm 48)), o 5 (.mv (.k (.b true)))]
def l_recv_Recv_Gap_0 : C := (.seq (.seq (.reg r_recv_Recv_Gap_1) (.cond (.tm 12) .skip (.exit 0))) (.blk 1 (.seq (.reg r_recv_Recv_Gap_2) (.seq (.reg r_recv_Recv_Gap_3) (.seq (.reg r_recv_Recv_Gap_4) (.cond (.tm 31) (.seq (.reg r_recv_Recv_Gap_5) (.seq (.draw r_recv_Recv_Gap_6 [(9, [15]), (13, [15])] []) .ret)) .skip))))))
abbrev r_recv_Recv_Gap_7 : List COp := [o 2 (.mv (.k (.sl none 0 (some 0) 0))), o 3 (.mv (.k (.i .u32 0))), o 4 (.mv (.k (.i .u32 0))), o 5 (.mv (.k (.b false)))]
def b_recv_Recv_Gap : C := (.seq (.reg r_recv_Recv_Gap_0) (.seq (.blk 0 (.loop l_recv_Recv_Gap_0)) (.seq (.reg r_recv_Recv_Gap_7) .ret)))
abbrev c_recv_Recv_Gap : CF := ⟨49, [(.tm 2), (.tm 3), (.tm 4), (.tm 5)], b_recv_Recv_Gap⟩
/-! (*polliwog/send.Send).Due -/
abbrev r_send_Send_Due_0 : List COp := [o 2 (.mv (.k (.b false)))]
abbrev r_send_Send_Due_1 : List COp := [o 3 (.mv (.tm 0)), o 4 (.nilck (.tm 3)), o 5 (.faddr 5 (.tm 4)), o 6 (.load false 1 (.tm 5)), o 7 (.mv (.tm 0)), o 8 (.nilck (.tm 7)), o 9 (.faddr 6 (.tm 8)), o 10 (.load false 1 (.tm 9)), o 11 (.bin .geq (.tm 6) (.tm 10)), o 2 (.mv (.tm 11))]
def b_send_Send_Due : C := (.seq (.reg r_send_Send_Due_0) (.seq (.draw r_send_Send_Due_1 [] []) .ret))
abbrev c_send_Send_Due : CF := ⟨12, [(.tm 2)], b_send_Send_Due⟩
/-! (*polliwog/send.Send).Poll -/
abbrev r_send_Send_Poll_0 : List COp := [o 2 (.mv (.k (.i .u32 0))), o 3 (.mv (.k (.i .u32 0)))]
abbrev r_send_Send_Poll_1 : List COp := [o 4 (.mv (.tm 0)), o 5 (.mv (.tm 0)), o 6 (.mv (.tm 0)), o 7 (.nilck (.tm 6)), o 8 (.faddr 3 (.tm 7)), o 9 (.load false 1 (.tm 8)), oC 10 n_seq_Num_Add [(.tm 9), (.k (.i .i64 1))], o 11 (.nilck (.tm 4)), o 12 (.faddr 3 (.tm 11)), oN (.store 1 (.tm 12) (.tm 10)), o 13 (.nilck (.tm 5)), o 14 (.faddr 5 (.tm 13)), oN (.store 1 (.tm 14) (.k (.i .i64 0)))]
abbrev r_send_Send_Poll_2 : List COp := [o 15 (.mv (.tm 0)), o 16 (.nilck (.tm 15)), o 17 (.faddr 3 (.tm 16)), o 18 (.load false 1 (.tm 17)), o 19 (.mv (.tm 0)), o 20 (.nilck (.tm 19)), o 21 (.faddr 0 (.tm 20)), o 22 (.load false 1 (.tm 21)), o 2 (.mv (.tm 18)), o 3 (.mv (.tm 22))]
def b_send_Send_Poll : C := (.seq (.reg r_send_Send_Poll_0) (.seq (.reg r_send_Send_Poll_1) (.seq (.draw r_send_Send_Poll_2 [] []) .ret)))
abbrev c_send_Send_Poll : CF := ⟨23, [(.tm 2), (.tm 3)], b_send_Send_Poll⟩
/-! (*polliwog/pace.Pace).Polled -/
abbrev r_pace_Pace_Polled_0 : List COp := [o 4 (.mv (.tm 0)), o 5 (.bslice 1 [(.i .i64 0)] 3 [(0, (.k (.i .i64 1))), (1, (.k (.i .i64 2))), (2, (.k (.i .i64 4)))]), oC 6 n_pace_Pace_stop [(.tm 4), (.tm 5)]]
abbrev r_pace_Pace_Polled_1 : List COp := [o 7 (.mv (.tm 1))]
abbrev r_pace_Pace_Polled_2 : List COp := [o 8 (.mv (.tm 0)), o 9 (.nilck (.tm 8)), o 10 (.faddr 0 (.tm 9)), o 11 (.mv (.tm 0)), o 12 (.nilck (.tm 11)), o 13 (.faddr 5 (.tm 12)), o 14 (.faddr 2 (.tm 13)), o 15 (.load false 1 (.tm 14)), oC 16 n_timer_Bank_Start [(.tm 10), (.k (.i .i64 2)), (.tm 15)]]
abbrev r_pace_Pace_Polled_3 : List COp := [o 17 (.mv (.tm 0)), o 18 (.nilck (.tm 17)), o 19 (.faddr 0 (.tm 18)), o 20 (.mv (.tm 0)), o 21 (.nilck (.tm 20)), o 22 (.faddr 5 (.tm 21)), o 23 (.faddr 1 (.tm 22)), o 24 (.load false 1 (.tm 23)), oC 25 n_timer_Bank_Start [(.tm 19), (.k (.i .i64 1)), (.tm 24)]]
abbrev r_pace_Pace_Polled_4 : List COp := [o 26 (.mv (.tm 0)), oC 27 n_pace_Pace_watch [(.tm 26)]]
def b_pace_Pace_Polled : C := (.seq (.reg r_pace_Pace_Polled_0) (.seq (.seq (.reg r_pace_Pace_Polled_1) (.cond (.tm 7) (.draw r_pace_Pace_Polled_2 [] []) (.draw r_pace_Pace_Polled_3 [] []))) (.reg r_pace_Pace_Polled_4)))
abbrev c_pace_Pace_Polled : CF := ⟨28, [], b_pace_Pace_Polled⟩
/-! (*polliwog/send.Send).Next -/
abbrev r_send_Send_Next_0 : List COp := [o 2 (.mv (.k (.i .u32 0))), o 3 (.mv (.k (.s []))), o 4 (.mv (.k (.b false))), o 5 (.mv (.k (.b false)))]
abbrev r_send_Send_Next_1 : List COp := [o 11 (.mv (.tm 0)), o 12 (.nilck (.tm 11)), o 13 (.faddr 9 (.tm 12)), o 14 (.load false 1 (.tm 13)), o 15 (.len .slice (.tm 14)), o 16 (.bin .gtr (.tm 15) (.k (.i .i64 0)))]
abbrev r_send_Send_Next_2 : List COp := [o 17 (.mv (.tm 0)), o 18 (.nilck (.tm 17)), o 19 (.faddr 9 (.tm 18)), o 20 (.load false 1 (.tm 19)), o 21 (.iaddrL 1 (.tm 20) (.k (.i .i64 0))), o 22 (.load false 1 (.tm 21)), o 6 (.mv (.tm 22))]
abbrev r_send_Send_Next_3 : List COp := [o 23 (.mv (.tm 0)), o 24 (.mv (.tm 0)), o 25 (.nilck (.tm 24)), o 26 (.faddr 9 (.tm 25)), o 27 (.load false 1 (.tm 26)), o 28 (.sliceL 1 (.tm 27) (some (.k (.i .i64 1))) none none), o 29 (.nilck (.tm 23)), o 30 (.faddr 9 (.tm 29)), oN (.store 1 (.tm 30) (.tm 28))]
abbrev r_send_Send_Next_4 : List COp := [o 31 (.mv (.tm 0)), o 32 (.nilck (.tm 31)), o 33 (.faddr 8 (.tm 32)), o 34 (.load false 1 (.tm 33)), o 35 (.mv (.tm 6)), o 36 (.lookup .int (.g [(.s []), (.i .u32 0)]) (.tm 34) (.tm 35) false), o 37 (.field 0 1 false (.tm 36)), o 7 (.mv (.tm 37))]
abbrev r_send_Send_Next_5 : List COp := [o 38 (.mv (.tm 0)), o 39 (.mv (.tm 6)), o 40 (.mv (.tm 7)), oC 41 n_send_Send_out [(.tm 38), (.tm 39), (.tm 40)]]
abbrev r_send_Send_Next_6 : List COp := [o 42 (.mv (.tm 6)), o 43 (.mv (.tm 7)), o 2 (.mv (.tm 42)), o 3 (.mv (.tm 43)), o 4 (.mv (.k (.b false))), o 5 (.mv (.k (.b true)))]
abbrev r_send_Send_Next_7 : List COp := [o 44 (.mv (.tm 0)), o 45 (.nilck (.tm 44)), o 46 (.faddr 0 (.tm 45)), o 47 (.load false 1 (.tm 46)), o 48 (.mv (.tm 0)), o 49 (.nilck (.tm 48)), o 50 (.faddr 2 (.tm 49)), o 51 (.load false 1 (.tm 50)), o 52 (.bin .eql (.tm 47) (.tm 51))]
abbrev r_send_Send_Next_8 : List COp := [o 2 (.mv (.k (.i .u32 0))), o 3 (.mv (.k (.s []))), o 4 (.mv (.k (.b false))), o 5 (.mv (.k (.b false)))]
abbrev r_send_Send_Next_9 : List COp := [o 54 (.mv (.tm 0)), o 55 (.nilck (.tm 54)), o 56 (.faddr 7 (.tm 55)), o 57 (.load false 1 (.tm 56)), oC 58 n_ring_Ring_string_Take [(.tm 57)], o 53 (.mv (.tm 58)), o 59 (.extract (.tm 53) 0), o 60 (.extract (.tm 53) 1), o 8 (.mv (.tm 59)), o 9 (.mv (.tm 60))]
abbrev r_send_Send_Next_10 : List COp := [o 61 (.mv (.tm 9)), o 62 (.bin .neq (.tm 61) (.k (.i .i64 0)))]
abbrev r_send_Send_Next_11 : List COp := [o 2 (.mv (.k (.i .u32 0))), o 3 (.mv (.k (.s []))), o 4 (.mv (.k (.b false))), o 5 (.mv (.k (.b false)))]
abbrev r_send_Send_Next_12 : List COp := [o 63 (.mv (.tm 0)), o 64 (.nilck (.tm 63)), o 65 (.faddr 0 (.tm 64)), o 66 (.load false 1 (.tm 65)), o 10 (.mv (.tm 66))]
abbrev r_send_Send_Next_13 : List COp := [o 67 (.mv (.tm 0)), o 68 (.mv (.tm 10)), o 69 (.mv (.tm 8)), oC 70 n_send_Send_out [(.tm 67), (.tm 68), (.tm 69)]]
abbrev r_send_Send_Next_14 : List COp := [o 71 (.mv (.tm 0)), o 72 (.mv (.tm 10)), oC 73 n_seq_Num_Add [(.tm 72), (.k (.i .i64 1))], o 74 (.nilck (.tm 71)), o 75 (.faddr 0 (.tm 74)), oN (.store 1 (.tm 75) (.tm 73))]
abbrev r_send_Send_Next_15 : List COp := [o 76 (.mv (.tm 10)), o 77 (.mv (.tm 8)), o 2 (.mv (.tm 76)), o 3 (.mv (.tm 77)), o 4 (.mv (.k (.b true))), o 5 (.mv (.k (.b true)))]
def b_send_Send_Next : C := (.seq (.reg r_send_Send_Next_0) (.seq (.seq (.reg r_send_Send_Next_1) (.cond (.tm 16) (.seq (.reg r_send_Send_Next_2) (.seq (.reg r_send_Send_Next_3) (.seq (.reg r_send_Send_Next_4) (.seq (.reg r_send_Send_Next_5) (.seq (.reg r_send_Send_Next_6) .ret))))) .skip)) (.seq (.seq (.draw r_send_Send_Next_7 [] []) (.cond (.tm 52) (.seq (.reg r_send_Send_Next_8) .ret) .skip)) (.seq (.reg r_send_Send_Next_9) (.seq (.seq (.reg r_send_Send_Next_10) (.cond (.tm 62) (.seq (.reg r_send_Send_Next_11) .ret) .skip)) (.seq (.reg r_send_Send_Next_12) (.seq (.reg r_send_Send_Next_13) (.seq (.reg r_send_Send_Next_14) (.seq (.reg r_send_Send_Next_15) .ret)))))))))
abbrev c_send_Send_Next : CF := ⟨78, [(.tm 2), (.tm 3), (.tm 4), (.tm 5)], b_send_Send_Next⟩
/-! (polliwog/pdu.PDU).Check -/
abbrev r_pdu_PDU_Check_0 : List COp := [o 1 (.box (.tm 0)), o 2 (.mv (.k (.i .i64 0)))]
abbrev r_pdu_PDU_Check_1 : List COp := [o 7 (.faddr 0 (.tm 1)), o 8 (.load false 1 (.tm 7)), oC 9 n_pdu_shapeOf [(.tm 8)], o 3 (.alloc [(.i .i64 0), (.b false), (.b false), (.i .i64 0), (.b false), (.b false), (.b false), (.b false)] 221), oN (.store 8 (.tm 3) (.tm 9))]
abbrev r_pdu_PDU_Check_2 : List COp := [o 10 (.faddr 7 (.tm 3)), o 11 (.load false 1 (.tm 10)), o 12 (.un .not (.tm 11))]
abbrev r_pdu_PDU_Check_3 : List COp := [o 2 (.mv (.k (.i .i64 10)))]
abbrev r_pdu_PDU_Check_4 : List COp := [o 13 (.faddr 7 (.tm 1)), o 14 (.load false 1 (.tm 13)), o 15 (.len .str (.tm 14)), o 16 (.faddr 0 (.tm 3)), o 17 (.load false 1 (.tm 16)), o 18 (.bin .gtr (.tm 15) (.tm 17)), o 19 (.mv (.tm 18)), ⟨(some 20), (.op (.faddr 0 (.tm 3))), (some (19, true))⟩, ⟨(some 21), (.op (.load false 1 (.tm 20))), (some (19, true))⟩, ⟨(some 22), (.op (.bin .gtr (.tm 21) (.k (.i .i64 0)))), (some (19, true))⟩, o 23 (.pick (.tm 19) (.tm 22) (.k (.b false))), o 24 (.mv (.tm 23)), ⟨(some 25), (.op (.faddr 5 (.tm 1))), (some (24, false))⟩, ⟨(some 26), (.op (.load false 1 (.tm 25))), (some (24, false))⟩, ⟨(some 27), (.op (.len .slice (.tm 26))), (some (24, false))⟩, ⟨(some 28), (.op (.bin .gtr (.tm 27) (.k (.i .i64 128)))), (some (24, false))⟩, o 29 (.pick (.tm 24) (.k (.b true)) (.tm 28))]
abbrev r_pdu_PDU_Check_5 : List COp := [o 2 (.mv (.k (.i .i64 6)))]
abbrev r_pdu_PDU_Check_6 : List COp := [o 30 (.faddr 5 (.tm 1)), o 31 (.load false 1 (.tm 30)), o 32 (.len .slice (.tm 31)), o 33 (.faddr 3 (.tm 3)), o 34 (.load false 1 (.tm 33)), o 35 (.bin .eql (.tm 32) (.tm 34)), o 36 (.mv (.tm 35)), ⟨(some 37), (.op (.faddr 3 (.tm 3))), (some (36, false))⟩, ⟨(some 38), (.op (.load false 1 (.tm 37))), (some (36, false))⟩, ⟨(some 39), (.op (.bin .lss (.tm 38) (.k (.i .i64 0)))), (some (36, false))⟩, ⟨(some 40), (.op (.mv (.tm 39))), (some (36, false))⟩, ⟨(some 41), (.op (.faddr 5 (.tm 1))), (some (40, true))⟩, ⟨(some 42), (.op (.load false 1 (.tm 41))), (some (40, true))⟩, ⟨(some 43), (.op (.len .slice (.tm 42))), (some (40, true))⟩, ⟨(some 44), (.op (.bin .rem (.tm 43) (.k (.i .i64 2)))), (some (40, true))⟩, ⟨(some 45), (.op (.bin .eql (.tm 44) (.k (.i .i64 0)))), (some (40, true))⟩, ⟨(some 46), (.op (.pick (.tm 40) (.tm 45) (.k (.b false)))), (some (36, false))⟩, o 47 (.pick (.tm 36) (.k (.b true)) (.tm 46)), o 4 (.mv (.tm 47))]
abbrev r_pdu_PDU_Check_7 : List COp := [o 48 (.faddr 2 (.tm 1)), o 49 (.load false 1 (.tm 48)), oC 50 n_pdu_low [(.tm 49)], o 51 (.mv (.tm 50)), ⟨(some 52), (.op (.faddr 3 (.tm 1))), (some (51, true))⟩, ⟨(some 53), (.op (.load false 1 (.tm 52))), (some (51, true))⟩, ⟨(some 54), (.callf n_pdu_low [(.tm 53)]), (some (51, true))⟩, o 55 (.pick (.tm 51) (.tm 54) (.k (.b false))), o 56 (.mv (.tm 55)), ⟨(some 57), (.op (.faddr 4 (.tm 1))), (some (56, true))⟩, ⟨(some 58), (.op (.load false 1 (.tm 57))), (some (56, true))⟩, ⟨(some 59), (.callf n_pdu_low [(.tm 58)]), (some (56, true))⟩, o 60 (.pick (.tm 56) (.tm 59) (.k (.b false))), o 61 (.mv (.tm 60)), ⟨(some 62), (.op (.faddr 5 (.tm 1))), (some (61, true))⟩, ⟨(some 63), (.op (.load false 1 (.tm 62))), (some (61, true))⟩, ⟨(some 64), (.callf n_slices_ContainsFunc_Lseq_Num_seq_Num [(.tm 63), (.fn n_pdu_PDU_Check_1)]), (some (61, true))⟩, ⟨(some 65), (.op (.un .not (.tm 64))), (some (61, true))⟩, o 66 (.pick (.tm 61) (.tm 65) (.k (.b false))), o 5 (.mv (.tm 66))]
abbrev r_pdu_PDU_Check_8 : List COp := [o 67 (.faddr 0 (.tm 3)), o 68 (.load false 1 (.tm 67)), o 69 (.bin .gtr (.tm 68) (.k (.i .i64 0))), o 70 (.mv (.tm 69)), ⟨(some 71), (.op (.faddr 7 (.tm 1))), (some (70, false))⟩, ⟨(some 72), (.op (.load false 1 (.tm 71))), (some (70, false))⟩, ⟨(some 73), (.op (.bin .eql (.tm 72) (.k (.s [])))), (some (70, false))⟩, o 74 (.pick (.tm 70) (.k (.b true)) (.tm 73)), o 75 (.mv (.tm 74)), ⟨(some 76), (.op (.faddr 2 (.tm 3))), (some (75, true))⟩, ⟨(some 77), (.op (.load false 1 (.tm 76))), (some (75, true))⟩, ⟨(some 78), (.op (.mv (.tm 77))), (some (75, true))⟩, ⟨(some 79), (.op (.faddr 2 (.tm 1))), (some (78, false))⟩, ⟨(some 80), (.op (.load false 1 (.tm 79))), (some (78, false))⟩, ⟨(some 81), (.op (.bin .eql (.tm 80) (.k (.i .u32 0)))), (some (78, false))⟩, ⟨(some 82), (.op (.pick (.tm 78) (.k (.b true)) (.tm 81))), (some (75, true))⟩, o 83 (.pick (.tm 75) (.tm 82) (.k (.b false))), o 84 (.mv (.tm 83)), ⟨(some 85), (.op (.faddr 4 (.tm 3))), (some (84, true))⟩, ⟨(some 86), (.op (.load false 1 (.tm 85))), (some (84, true))⟩, ⟨(some 87), (.op (.mv (.tm 86))), (some (84, true))⟩, ⟨(some 88), (.op (.faddr 3 (.tm 1))), (some (87, false))⟩, ⟨(some 89), (.op (.load false 1 (.tm 88))), (some (87, false))⟩, ⟨(some 90), (.op (.bin .eql (.tm 89) (.k (.i .u32 0)))), (some (87, false))⟩, ⟨(some 91), (.op (.pick (.tm 87) (.k (.b true)) (.tm 90))), (some (84, true))⟩, o 92 (.pick (.tm 84) (.tm 91) (.k (.b false))), o 93 (.mv (.tm 92)), ⟨(some 94), (.op (.faddr 5 (.tm 3))), (some (93, true))⟩, ⟨(some 95), (.op (.load false 1 (.tm 94))), (some (93, true))⟩, ⟨(some 96), (.op (.mv (.tm 95))), (some (93, true))⟩, ⟨(some 97), (.op (.faddr 4 (.tm 1))), (some (96, false))⟩, ⟨(some 98), (.op (.load false 1 (.tm 97))), (some (96, false))⟩, ⟨(some 99), (.op (.bin .eql (.tm 98) (.k (.i .u32 0)))), (some (96, false))⟩, ⟨(some 100), (.op (.pick (.tm 96) (.k (.b true)) (.tm 99))), (some (93, true))⟩, o 101 (.pick (.tm 93) (.tm 100) (.k (.b false))), o 102 (.mv (.tm 101)), ⟨(some 103), (.op (.faddr 6 (.tm 3))), (some (102, true))⟩, ⟨(some 104), (.op (.load false 1 (.tm 103))), (some (102, true))⟩, ⟨(some 105), (.op (.mv (.tm 104))), (some (102, true))⟩, ⟨(some 106), (.op (.faddr 6 (.tm 1))), (some (105, false))⟩, ⟨(some 107), (.op (.load false 1 (.tm 106))), (some (105, false))⟩, ⟨(some 108), (.op (.un .not (.tm 107))), (some (105, false))⟩, ⟨(some 109), (.op (.pick (.tm 105) (.k (.b true)) (.tm 108))), (some (102, true))⟩, o 110 (.pick (.tm 102) (.tm 109) (.k (.b false))), o 6 (.mv (.tm 110))]
abbrev r_pdu_PDU_Check_9 : List COp := [o 111 (.mv (.tm 4)), o 112 (.un .not (.tm 111)), o 113 (.mv (.tm 112)), ⟨(some 114), (.op (.mv (.tm 5))), (some (113, false))⟩, ⟨(some 115), (.op (.un .not (.tm 114))), (some (113, false))⟩, o 116 (.pick (.tm 113) (.k (.b true)) (.tm 115)), o 117 (.mv (.tm 116)), ⟨(some 118), (.op (.mv (.tm 6))), (some (117, false))⟩, ⟨(some 119), (.op (.un .not (.tm 118))), (some (117, false))⟩, o 120 (.pick (.tm 117) (.k (.b true)) (.tm 119)), o 121 (.mv (.tm 120)), ⟨(some 122), (.op (.faddr 1 (.tm 1))), (some (121, false))⟩, ⟨(some 123), (.op (.load false 1 (.tm 122))), (some (121, false))⟩, ⟨(some 124), (.op (.bin .lss (.tm 123) (.k (.i .i64 0)))), (some (121, false))⟩, o 125 (.pick (.tm 121) (.k (.b true)) (.tm 124)), o 126 (.mv (.tm 125)), ⟨(some 127), (.op (.faddr 1 (.tm 1))), (some (126, false))⟩, ⟨(some 128), (.op (.load false 1 (.tm 127))), (some (126, false))⟩, ⟨(some 129), (.op (.bin .gtr (.tm 128) (.k (.i .i64 255)))), (some (126, false))⟩, o 130 (.pick (.tm 126) (.k (.b true)) (.tm 129)), o 131 (.mv (.tm 130)), ⟨(some 132), (.op (.faddr 1 (.tm 3))), (some (131, false))⟩, ⟨(some 133), (.op (.load false 1 (.tm 132))), (some (131, false))⟩, ⟨(some 134), (.op (.un .not (.tm 133))), (some (131, false))⟩, ⟨(some 135), (.op (.mv (.tm 134))), (some (131, false))⟩, ⟨(some 136), (.op (.faddr 1 (.tm 1))), (some (135, true))⟩, ⟨(some 137), (.op (.load false 1 (.tm 136))), (some (135, true))⟩, ⟨(some 138), (.op (.bin .neq (.tm 137) (.k (.i .i64 0)))), (some (135, true))⟩, ⟨(some 139), (.op (.pick (.tm 135) (.tm 138) (.k (.b false)))), (some (131, false))⟩, o 140 (.pick (.tm 131) (.k (.b true)) (.tm 139))]
abbrev r_pdu_PDU_Check_10 : List COp := [o 2 (.mv (.k (.i .i64 1)))]
abbrev r_pdu_PDU_Check_11 : List COp := [o 2 (.mv (.k (.i .i64 0)))]
def b_pdu_PDU_Check : C := (.seq (.reg r_pdu_PDU_Check_0) (.seq (.reg r_pdu_PDU_Check_1) (.seq (.seq (.reg r_pdu_PDU_Check_2) (.cond (.tm 12) (.seq (.reg r_pdu_PDU_Check_3) .ret) .skip)) (.seq (.seq (.reg r_pdu_PDU_Check_4) (.cond (.tm 29) (.seq (.reg r_pdu_PDU_Check_5) .ret) .skip)) (.seq (.reg r_pdu_PDU_Check_6) (.seq (.reg r_pdu_PDU_Check_7) (.seq (.reg r_pdu_PDU_Check_8) (.seq (.seq (.reg r_pdu_PDU_Check_9) (.cond (.tm 140) (.seq (.reg r_pdu_PDU_Check_10) .ret) .skip)) (.seq (.reg r_pdu_PDU_Check_11) .ret)))))))))
abbrev c_pdu_PDU_Check : CF := ⟨141, [(.tm 2)], b_pdu_PDU_Check⟩
/-! (polliwog/pdu.PDU).Bytes -/
abbrev r_pdu_PDU_Bytes_0 : List COp := [o 1 (.box (.tm 0)), o 2 (.mv (.k (.s [])))]
abbrev r_pdu_PDU_Bytes_1 : List COp := [o 7 (.load true 8 (.tm 1)), oC 8 n_pdu_PDU_Check [(.tm 7)], o 9 (.bin .neq (.tm 8) (.k (.i .i64 0)))]
abbrev r_pdu_PDU_Bytes_2 : List COp := [o 2 (.mv (.k (.s [])))]
abbrev r_pdu_PDU_Bytes_3 : List COp := [o 3 (.alloc [(.p none), (.sl none 0 (some 0) 0)] tyB)]
abbrev r_pdu_PDU_Bytes_4 : List COp := [o 10 (.faddr 7 (.tm 1)), o 11 (.load false 1 (.tm 10)), o 12 (.len .str (.tm 11)), o 13 (.bin .rem (.tm 12) (.k (.i .i64 4))), o 14 (.bin .sub (.k (.i .i64 4)) (.tm 13)), o 15 (.bin .rem (.tm 14) (.k (.i .i64 4))), o 4 (.mv (.tm 15))]
abbrev r_pdu_PDU_Bytes_5 : List COp := [o 16 (.faddr 7 (.tm 1)), o 17 (.load false 1 (.tm 16)), o 18 (.mv (.tm 4)), oC 19 n_strings_Repeat [(.k (.s [0])), (.tm 18)], o 20 (.bin .add (.tm 17) (.tm 19)), oC 21 n_strings_Builder_WriteString [(.tm 3), (.tm 20)]]
abbrev r_pdu_PDU_Bytes_6 : List COp := [o 22 (.load true 8 (.tm 1)), oC 23 n_pdu_PDU_words [(.tm 22)], o 24 (.len .slice (.tm 23)), o 25 (.mv (.k (.i .i64 0)))]
abbrev r_pdu_PDU_Bytes_7 : List COp := [o 26 (.bin .lss (.tm 25) (.tm 24))]
abbrev r_pdu_PDU_Bytes_8 : List COp := [o 27 (.iaddrL 1 (.tm 23) (.tm 25)), o 28 (.load false 1 (.tm 27)), o 6 (.mv (.tm 28))]
abbrev r_pdu_PDU_Bytes_9 : List COp := [o 29 (.mv (.tm 6)), oC 30 n_pdu_four [(.tm 29)], oC 31 n_strings_Builder_WriteString [(.tm 3), (.tm 30)]]
abbrev r_pdu_PDU_Bytes_10 : List COp := [o 32 (.bin .add (.tm 25) (.k (.i .i64 1))), o 25 (.mv (.tm 32))]
def l_pdu_PDU_Bytes_0 : C := (.seq (.reg r_pdu_PDU_Bytes_7) (.seq (.cond (.tm 26) .skip (.exit 0)) (.seq (.blk 1 (.seq (.reg r_pdu_PDU_Bytes_8) (.reg r_pdu_PDU_Bytes_9))) (.reg r_pdu_PDU_Bytes_10))))
abbrev r_pdu_PDU_Bytes_11 : List COp := [o 33 (.mv (.tm 4)), o 34 (.convI .u32 (.tm 33)), o 35 (.bin .shl (.tm 34) (.k (.i .u64 30))), o 36 (.faddr 6 (.tm 1)), o 37 (.load false 1 (.tm 36)), o 41 (.faddr 0 (.tm 1)), o 42 (.load false 1 (.tm 41)), o 43 (.convI .u32 (.tm 42)), o 44 (.bin .shl (.tm 43) (.k (.i .u64 24))), o 46 (.faddr 2 (.tm 1)), o 47 (.load false 1 (.tm 46)), oC 38 n_pdu_bit [(.tm 37)], o 39 (.bin .shl (.tm 38) (.k (.i .u64 29))), o 40 (.bin .or (.tm 35) (.tm 39)), o 45 (.bin .or (.tm 40) (.tm 44)), o 48 (.bin .or (.tm 45) (.tm 47)), oC 49 n_pdu_four [(.tm 48)], oC 50 n_strings_Builder_WriteString [(.tm 3), (.tm 49)]]
abbrev r_pdu_PDU_Bytes_12 : List COp := [oC 51 n_strings_Builder_String [(.tm 3)], o 2 (.mv (.tm 51))]
def b_pdu_PDU_Bytes : C := (.seq (.reg r_pdu_PDU_Bytes_0) (.seq (.seq (.reg r_pdu_PDU_Bytes_1) (.cond (.tm 9) (.seq (.reg r_pdu_PDU_Bytes_2) .ret) .skip)) (.seq (.reg r_pdu_PDU_Bytes_3) (.seq (.reg r_pdu_PDU_Bytes_4) (.seq (.draw r_pdu_PDU_Bytes_5 [(1, [4])] []) (.seq (.seq (.reg r_pdu_PDU_Bytes_6) (.blk 0 (.loop l_pdu_PDU_Bytes_0))) (.seq (.draw r_pdu_PDU_Bytes_11 [(6, [12]), (10, [12])] []) (.seq (.reg r_pdu_PDU_Bytes_12) .ret))))))))
abbrev c_pdu_PDU_Bytes : CF := ⟨52, [(.tm 2)], b_pdu_PDU_Bytes⟩
/-! (polliwog/frame.Frame).Bytes -/
abbrev r_frame_Frame_Bytes_0 : List COp := [o 2 (.box (.tm 0)), o 4 (.mv (.k (.s []))), o 5 (.mv (.k (.i .i64 0)))]
abbrev r_frame_Frame_Bytes_1 : List COp := [o 9 (.faddr 1 (.tm 2)), o 10 (.load false 1 (.tm 9)), o 11 (.len .str (.tm 10)), o 6 (.mv (.tm 11))]
abbrev r_frame_Frame_Bytes_2 : List COp := [o 12 (.mv (.tm 6)), o 13 (.bin .gtr (.tm 12) (.k (.i .i64 65535)))]
abbrev r_frame_Frame_Bytes_3 : List COp := [o 4 (.mv (.k (.s []))), o 5 (.mv (.k (.i .i64 6)))]
abbrev r_frame_Frame_Bytes_4 : List COp := [o 14 (.mv (.tm 6)), oC 15 n_frame_Cells [(.tm 14)], o 16 (.bin .mul (.tm 15) (.k (.i .i64 48))), o 17 (.bin .sub (.tm 16) (.k (.i .i64 8))), o 18 (.mv (.tm 6)), o 19 (.bin .sub (.tm 17) (.tm 18)), oC 20 n_strings_Repeat [(.k (.s [0])), (.tm 19)], o 7 (.mv (.tm 20))]
abbrev r_frame_Frame_Bytes_5 : List COp := [o 21 (.faddr 0 (.tm 2)), o 22 (.load false 1 (.tm 21)), o 23 (.mv (.tm 6)), o 24 (.bin .shr (.tm 23) (.k (.i .u64 8))), o 25 (.convI .u8 (.tm 24)), o 26 (.mv (.tm 6)), o 27 (.convI .u8 (.tm 26)), o 28 (.bslice 1 [(.i .u8 0)] 4 [(0, (.tm 22)), (1, (.k (.i .u8 0))), (2, (.tm 25)), (3, (.tm 27))]), o 29 (.convBS (.tm 28)), o 8 (.mv (.tm 29))]
abbrev r_frame_Frame_Bytes_6 : List COp := [o 30 (.mv (.tm 1)), o 31 (.faddr 1 (.tm 2)), o 32 (.load false 1 (.tm 31)), o 33 (.mv (.tm 7)), o 34 (.bin .add (.tm 32) (.tm 33)), o 35 (.mv (.tm 8)), o 36 (.bin .add (.tm 34) (.tm 35)), oC 37 n_crc_Table_Seal [(.tm 30), (.tm 36)], o 4 (.mv (.tm 37)), o 5 (.mv (.k (.i .i64 0)))]
def b_frame_Frame_Bytes : C := (.seq (.reg r_frame_Frame_Bytes_0) (.seq (.reg r_frame_Frame_Bytes_1) (.seq (.seq (.reg r_frame_Frame_Bytes_2) (.cond (.tm 13) (.seq (.reg r_frame_Frame_Bytes_3) .ret) .skip)) (.seq (.reg r_frame_Frame_Bytes_4) (.seq (.reg r_frame_Frame_Bytes_5) (.seq (.reg r_frame_Frame_Bytes_6) .ret))))))
abbrev c_frame_Frame_Bytes : CF := ⟨38, [(.tm 4), (.tm 5)], b_frame_Frame_Bytes⟩
/-! (*polliwog/ring.Ring[string]).Put -/
abbrev r_ring_Ring_string_Put_0 : List COp := [o 4 (.mv (.k (.i .i64 0)))]
abbrev r_ring_Ring_string_Put_1 : List COp := [o 5 (.mv (.tm 0)), oC 6 n_ring_Ring_string_Room [(.tm 5)], o 7 (.bin .eql (.tm 6) (.k (.i .i64 0)))]
abbrev r_ring_Ring_string_Put_2 : List COp := [o 4 (.mv (.k (.i .i64 7)))]
abbrev r_ring_Ring_string_Put_3 : List COp := [o 8 (.mv (.tm 0)), o 9 (.nilck (.tm 8)), o 10 (.faddr 2 (.tm 9)), o 11 (.load false 1 (.tm 10)), o 12 (.mv (.tm 0)), o 13 (.nilck (.tm 12)), o 14 (.faddr 0 (.tm 13)), o 15 (.load false 1 (.tm 14)), o 16 (.len .slice (.tm 15)), o 17 (.bin .eql (.tm 11) (.tm 16))]
abbrev r_ring_Ring_string_Put_4 : List COp := [o 18 (.mv (.tm 0)), oC 19 n_ring_Ring_string_grow [(.tm 18)]]
abbrev r_ring_Ring_string_Put_5 : List COp := [o 20 (.mv (.tm 0)), o 21 (.nilck (.tm 20)), o 22 (.faddr 0 (.tm 21)), o 23 (.load false 1 (.tm 22)), o 24 (.mv (.tm 0)), o 25 (.mv (.tm 0)), o 26 (.nilck (.tm 25)), o 27 (.faddr 2 (.tm 26)), o 28 (.load false 1 (.tm 27)), o 30 (.mv (.tm 1)), oC 29 n_ring_Ring_string_place [(.tm 24), (.tm 28)], o 31 (.iaddrL 1 (.tm 23) (.tm 29)), oN (.store 1 (.tm 31) (.tm 30))]
abbrev r_ring_Ring_string_Put_6 : List COp := [o 32 (.mv (.tm 0)), o 33 (.nilck (.tm 32)), o 34 (.faddr 2 (.tm 33)), o 35 (.load false 1 (.tm 34)), o 36 (.bin .add (.tm 35) (.k (.i .i64 1))), o 37 (.nilck (.tm 32)), o 38 (.faddr 2 (.tm 37)), oN (.store 1 (.tm 38) (.tm 36))]
abbrev r_ring_Ring_string_Put_7 : List COp := [o 4 (.mv (.k (.i .i64 0)))]
def b_ring_Ring_string_Put : C := (.seq (.reg r_ring_Ring_string_Put_0) (.seq (.seq (.reg r_ring_Ring_string_Put_1) (.cond (.tm 7) (.seq (.reg r_ring_Ring_string_Put_2) .ret) .skip)) (.seq (.seq (.draw r_ring_Ring_string_Put_3 [] []) (.cond (.tm 17) (.reg r_ring_Ring_string_Put_4) .skip)) (.seq (.draw r_ring_Ring_string_Put_5 [(3, [11])] []) (.seq (.reg r_ring_Ring_string_Put_6) (.seq (.reg r_ring_Ring_string_Put_7) .ret))))))
abbrev c_ring_Ring_string_Put : CF := ⟨39, [(.tm 4)], b_ring_Ring_string_Put⟩
/-! polliwog/rules.row -/
abbrev r_rules_row_0 : List COp := [o 10 (.mv (.tm 3)), o 11 (.len .slice (.tm 10)), o 12 (.mv (.k (.i .i64 0)))]
abbrev r_rules_row_1 : List COp := [o 13 (.bin .lss (.tm 12) (.tm 11))]
abbrev r_rules_row_2 : List COp := [o 14 (.iaddrL 1 (.tm 10) (.tm 12)), o 15 (.load false 1 (.tm 14)), o 9 (.mv (.tm 15))]
abbrev r_rules_row_3 : List COp := [o 16 (.mv (.tm 0)), o 17 (.mv (.tm 1)), o 18 (.mv (.tm 9)), o 19 (.build [(.i .i64 0), (.i .i64 0)] [(0, 1, (.tm 17)), (1, 1, (.tm 18))]), o 20 (.mv (.tm 2)), oN (.mupd (.arr 2) (.tm 16) (.tm 19) (.tm 20))]
abbrev r_rules_row_4 : List COp := [o 21 (.bin .add (.tm 12) (.k (.i .i64 1))), o 12 (.mv (.tm 21))]
def l_rules_row_0 : C := (.seq (.reg r_rules_row_1) (.seq (.cond (.tm 13) .skip (.exit 0)) (.seq (.blk 1 (.seq (.reg r_rules_row_2) (.reg r_rules_row_3))) (.reg r_rules_row_4))))
def b_rules_row : C := (.seq (.reg r_rules_row_0) (.blk 0 (.loop l_rules_row_0)))
abbrev c_rules_row : CF := ⟨22, [], b_rules_row⟩
/-! (*polliwog/timer.Bank).Runs -/
abbrev r_timer_Bank_Runs_0 : List COp := [o 4 (.mv (.k (.b false)))]
abbrev r_timer_Bank_Runs_1 : List COp := [o 5 (.mv (.tm 0)), o 6 (.mv (.tm 1)), oC 7 n_timer_Bank_Left [(.tm 5), (.tm 6)], o 8 (.bin .gtr (.tm 7) (.k (.i .i64 0))), o 4 (.mv (.tm 8))]
def b_timer_Bank_Runs : C := (.seq (.reg r_timer_Bank_Runs_0) (.seq (.reg r_timer_Bank_Runs_1) .ret))
abbrev c_timer_Bank_Runs : CF := ⟨9, [(.tm 4)], b_timer_Bank_Runs⟩
/-! (*polliwog/pace.Pace).stop -/
abbrev r_pace_Pace_stop_0 : List COp := [o 6 (.mv (.tm 1)), o 7 (.len .slice (.tm 6)), o 8 (.mv (.k (.i .i64 0)))]
abbrev r_pace_Pace_stop_1 : List COp := [o 9 (.bin .lss (.tm 8) (.tm 7))]
abbrev r_pace_Pace_stop_2 : List COp := [o 10 (.iaddrL 1 (.tm 6) (.tm 8)), o 11 (.load false 1 (.tm 10)), o 5 (.mv (.tm 11))]
abbrev r_pace_Pace_stop_3 : List COp := [o 12 (.mv (.tm 0)), o 13 (.nilck (.tm 12)), o 14 (.faddr 0 (.tm 13)), o 15 (.mv (.tm 5)), oC 16 n_timer_Bank_Stop [(.tm 14), (.tm 15)]]
abbrev r_pace_Pace_stop_4 : List COp := [o 17 (.bin .add (.tm 8) (.k (.i .i64 1))), o 8 (.mv (.tm 17))]
def l_pace_Pace_stop_0 : C := (.seq (.reg r_pace_Pace_stop_1) (.seq (.cond (.tm 9) .skip (.exit 0)) (.seq (.blk 1 (.seq (.reg r_pace_Pace_stop_2) (.reg r_pace_Pace_stop_3))) (.reg r_pace_Pace_stop_4))))
def b_pace_Pace_stop : C := (.seq (.reg r_pace_Pace_stop_0) (.blk 0 (.loop l_pace_Pace_stop_0)))
abbrev c_pace_Pace_stop : CF := ⟨18, [], b_pace_Pace_stop⟩
/-! (*polliwog/timer.Bank).Start -/
abbrev r_timer_Bank_Start_0 : List COp := [o 6 (.mv (.tm 1)), oC 7 n_timer_is [(.tm 6)]]
abbrev r_timer_Bank_Start_1 : List COp := [o 8 (.mv (.tm 0)), o 9 (.mv (.tm 1)), o 10 (.mv (.tm 2)), o 11 (.mxmn false [(.tm 10), (.k (.i .i64 1048576))]), o 12 (.mxmn true [(.k (.i .i64 1)), (.tm 11)]), o 13 (.nilck (.tm 8)), o 14 (.faddr 0 (.tm 13)), o 15 (.iaddrA 5 1 (.tm 14) (.tm 9)), oN (.store 1 (.tm 15) (.tm 12))]
def b_timer_Bank_Start : C := (.seq (.reg r_timer_Bank_Start_0) (.cond (.tm 7) (.reg r_timer_Bank_Start_1) .skip))
abbrev c_timer_Bank_Start : CF := ⟨16, [], b_timer_Bank_Start⟩
/-! (*polliwog/pace.Pace).watch -/
abbrev r_pace_Pace_watch_0 : List COp := [o 2 (.mv (.tm 0)), o 3 (.nilck (.tm 2)), o 4 (.faddr 0 (.tm 3)), oC 5 n_timer_Bank_Runs [(.tm 4), (.k (.i .i64 3))], o 6 (.un .not (.tm 5))]
abbrev r_pace_Pace_watch_1 : List COp := [o 7 (.mv (.tm 0)), o 8 (.nilck (.tm 7)), o 9 (.faddr 0 (.tm 8)), o 10 (.mv (.tm 0)), o 11 (.nilck (.tm 10)), o 12 (.faddr 5 (.tm 11)), o 13 (.faddr 3 (.tm 12)), o 14 (.load false 1 (.tm 13)), oC 15 n_timer_Bank_Start [(.tm 9), (.k (.i .i64 3)), (.tm 14)]]
def b_pace_Pace_watch : C := (.seq (.reg r_pace_Pace_watch_0) (.cond (.tm 6) (.draw r_pace_Pace_watch_1 [] []) .skip))
abbrev c_pace_Pace_watch : CF := ⟨16, [], b_pace_Pace_watch⟩
/-! (*polliwog/ring.Ring[polliwog/pdu.PDU]).Room -/
abbrev r_ring_Ring_pdu_PDU_Room_0 : List COp := [o 2 (.mv (.k (.i .i64 0)))]
abbrev r_ring_Ring_pdu_PDU_Room_1 : List COp := [o 3 (.mv (.tm 0)), o 4 (.nilck (.tm 3)), o 5 (.faddr 3 (.tm 4)), o 6 (.load false 1 (.tm 5)), o 7 (.mv (.tm 0)), o 8 (.nilck (.tm 7)), o 9 (.faddr 2 (.tm 8)), o 10 (.load false 1 (.tm 9)), o 11 (.bin .sub (.tm 6) (.tm 10)), o 2 (.mv (.tm 11))]
def b_ring_Ring_pdu_PDU_Room : C := (.seq (.reg r_ring_Ring_pdu_PDU_Room_0) (.seq (.draw r_ring_Ring_pdu_PDU_Room_1 [] []) .ret))
abbrev c_ring_Ring_pdu_PDU_Room : CF := ⟨12, [(.tm 2)], b_ring_Ring_pdu_PDU_Room⟩
/-! (*polliwog/ring.Ring[polliwog/pdu.PDU]).grow -/
abbrev r_ring_Ring_pdu_PDU_grow_0 : List COp := [o 4 (.mv (.tm 0)), o 5 (.nilck (.tm 4)), o 6 (.faddr 3 (.tm 5)), o 7 (.load false 1 (.tm 6)), o 8 (.mv (.tm 0)), o 9 (.nilck (.tm 8)), o 10 (.faddr 0 (.tm 9)), o 11 (.load false 1 (.tm 10)), o 12 (.len .slice (.tm 11)), o 13 (.bin .mul (.k (.i .i64 2)) (.tm 12)), o 14 (.mxmn true [(.k (.i .i64 4)), (.tm 13)]), o 15 (.mxmn false [(.tm 7), (.tm 14)]), o 2 (.mv (.tm 15))]
abbrev r_ring_Ring_pdu_PDU_grow_1 : List COp := [o 16 (.mv (.tm 2)), o 17 (.mkslice 8 80 [(.i .i64 0), (.i .i64 0), (.i .u32 0), (.i .u32 0), (.i .u32 0), (.sl none 0 (some 0) 0), (.b false), (.s [])] (.tm 16) (.tm 16)), o 3 (.mv (.tm 17))]
abbrev r_ring_Ring_pdu_PDU_grow_2 : List COp := [o 18 (.mv (.tm 3)), o 19 (.mv (.tm 0)), oC 20 n_ring_Ring_pdu_PDU_All [(.tm 19)], o 21 (.copyL 8 (.tm 18) (.tm 20))]
abbrev r_ring_Ring_pdu_PDU_grow_3 : List COp := [o 22 (.mv (.tm 0)), o 23 (.mv (.tm 0)), o 24 (.mv (.tm 3)), o 25 (.nilck (.tm 22)), o 26 (.faddr 0 (.tm 25)), oN (.store 1 (.tm 26) (.tm 24)), o 27 (.nilck (.tm 23)), o 28 (.faddr 1 (.tm 27)), oN (.store 1 (.tm 28) (.k (.i .i64 0)))]
def b_ring_Ring_pdu_PDU_grow : C := (.seq (.draw r_ring_Ring_pdu_PDU_grow_0 [] []) (.seq (.reg r_ring_Ring_pdu_PDU_grow_1) (.seq (.reg r_ring_Ring_pdu_PDU_grow_2) (.reg r_ring_Ring_pdu_PDU_grow_3))))
abbrev c_ring_Ring_pdu_PDU_grow : CF := ⟨29, [], b_ring_Ring_pdu_PDU_grow⟩
/-! (*polliwog/ring.Ring[polliwog/pdu.PDU]).place -/
abbrev r_ring_Ring_pdu_PDU_place_0 : List COp := [o 4 (.mv (.k (.i .i64 0)))]
abbrev r_ring_Ring_pdu_PDU_place_1 : List COp := [o 5 (.mv (.tm 0)), o 6 (.nilck (.tm 5)), o 7 (.faddr 1 (.tm 6)), o 8 (.load false 1 (.tm 7)), o 9 (.mv (.tm 1)), o 10 (.bin .add (.tm 8) (.tm 9)), o 11 (.mv (.tm 0)), o 12 (.nilck (.tm 11)), o 13 (.faddr 0 (.tm 12)), o 14 (.load false 1 (.tm 13)), o 15 (.len .slice (.tm 14)), o 16 (.bin .rem (.tm 10) (.tm 15)), o 4 (.mv (.tm 16))]
def b_ring_Ring_pdu_PDU_place : C := (.seq (.reg r_ring_Ring_pdu_PDU_place_0) (.seq (.draw r_ring_Ring_pdu_PDU_place_1 [] []) .ret))
abbrev c_ring_Ring_pdu_PDU_place : CF := ⟨17, [(.tm 4)], b_ring_Ring_pdu_PDU_place⟩
/-! slices.Clone[[]string,string] -/
abbrev r_slices_Clone_Lstring_string_0 : List COp := [o 2 (.mv (.k (.sl none 0 (some 0) 0)))]
abbrev r_slices_Clone_Lstring_string_1 : List COp := [o 3 (.mv (.tm 0)), o 4 (.eq false .slice (.tm 3) (.k (.sl none 0 (some 0) 0)))]
abbrev r_slices_Clone_Lstring_string_2 : List COp := [o 2 (.mv (.k (.sl none 0 (some 0) 0)))]
abbrev r_slices_Clone_Lstring_string_3 : List COp := [o 5 (.bslice 1 [(.s [])] 0 []), o 6 (.mv (.tm 0)), o 7 (.append false 1 16 (.tm 5) (.tm 6)), o 2 (.mv (.tm 7))]
def b_slices_Clone_Lstring_string : C := (.seq (.reg r_slices_Clone_Lstring_string_0) (.seq (.seq (.reg r_slices_Clone_Lstring_string_1) (.cond (.tm 4) (.seq (.reg r_slices_Clone_Lstring_string_2) .ret) .skip)) (.seq (.reg r_slices_Clone_Lstring_string_3) .ret)))
abbrev c_slices_Clone_Lstring_string : CF := ⟨8, [(.tm 2)], b_slices_Clone_Lstring_string⟩
/-! (*polliwog/conn.Conn).done -/
abbrev r_conn_Conn_done_0 : List COp := [o 4 (.alloc [(.sl none 0 (some 0) 0), (.sl none 0 (some 0) 0), (.b false), (.b false), (.i .u32 0), (.i .i64 0)] 170)]
abbrev r_conn_Conn_done_1 : List COp := [o 6 (.mv (.tm 0)), o 7 (.build [(.p none), (.sl none 0 (some 0) 0), (.sl none 0 (some 0) 0), (.b false), (.b false), (.i .u32 0), (.i .i64 0)] [(0, 1, (.tm 6))]), o 8 (.box (.tm 7)), o 5 (.mv (.tm 8))]
abbrev r_conn_Conn_done_2 : List COp := [o 9 (.mv (.tm 1)), o 10 (.mv (.tm 5)), ⟨(some 11), (.callv (.tm 9) [(.tm 10)]), none⟩]
abbrev r_conn_Conn_done_3 : List COp := [o 12 (.mv (.tm 5)), o 13 (.nilck (.tm 12)), o 14 (.faddr 1 (.tm 13)), o 15 (.load true 6 (.tm 14)), oN (.store 6 (.tm 4) (.tm 15))]
def b_conn_Conn_done : C := (.seq (.reg r_conn_Conn_done_0) (.seq (.reg r_conn_Conn_done_1) (.seq (.reg r_conn_Conn_done_2) (.seq (.reg r_conn_Conn_done_3) .ret))))
abbrev c_conn_Conn_done : CF := ⟨16, [(.cell 4 true 6)], b_conn_Conn_done⟩
/-! (*polliwog/conn.Conn).Request$1 -/
abbrev r_conn_Conn_Request_1_0 : List COp := [o 4 (.mv (.tm 0)), o 5 (.load false 1 (.tm 1)), o 6 (.load false 1 (.tm 2)), oC 7 n_conn_act_ask [(.tm 4), (.tm 5), (.tm 6)]]
def b_conn_Conn_Request_1 : C := (.reg r_conn_Conn_Request_1_0)
abbrev c_conn_Conn_Request_1 : CF := ⟨8, [], b_conn_Conn_Request_1⟩
/-! (*polliwog/conn.act).ask -/
abbrev r_conn_act_ask_0 : List COp := [o 6 (.mv (.tm 1))]
abbrev r_conn_act_ask_1 : List COp := [o 8 (.bin .eql (.tm 6) (.k (.i .i64 1))), o 7 (.mv (.tm 8))]
abbrev r_conn_act_ask_2 : List COp := [o 9 (.mv (.tm 0)), o 10 (.mv (.tm 2)), oC 11 n_conn_act_begin [(.tm 9), (.k (.i .i64 2)), (.tm 10)]]
abbrev r_conn_act_ask_3 : List COp := [o 13 (.bin .eql (.tm 6) (.k (.i .i64 2))), o 12 (.mv (.tm 13))]
abbrev r_conn_act_ask_4 : List COp := [o 14 (.mv (.tm 0)), o 15 (.mv (.tm 0)), o 16 (.nilck (.tm 15)), o 17 (.faddr 0 (.tm 16)), o 18 (.load false 1 (.tm 17)), o 19 (.nilck (.tm 18)), o 20 (.faddr 2 (.tm 19)), o 21 (.faddr 2 (.tm 20)), o 22 (.load false 1 (.tm 21)), o 23 (.build [(.i .i64 0), (.i .i64 0), (.i .u32 0), (.i .u32 0), (.i .u32 0), (.sl none 0 (some 0) 0), (.b false), (.s [])] [(0, 1, (.k (.i .i64 2))), (1, 1, (.tm 22))]), oC 24 n_conn_act_out [(.tm 14), (.tm 23)]]
abbrev r_conn_act_ask_5 : List COp := [o 25 (.mv (.tm 0)), oC 26 n_conn_act_ready [(.tm 25)]]
abbrev r_conn_act_ask_6 : List COp := [o 28 (.bin .eql (.tm 6) (.k (.i .i64 3))), o 27 (.mv (.tm 28))]
abbrev r_conn_act_ask_7 : List COp := [o 29 (.mv (.tm 0)), o 30 (.nilck (.tm 29)), o 31 (.faddr 0 (.tm 30)), o 32 (.load false 1 (.tm 31)), o 33 (.nilck (.tm 32)), o 34 (.faddr 2 (.tm 33)), o 35 (.faddr 0 (.tm 34)), o 36 (.load false 1 (.tm 35)), o 37 (.bin .eql (.tm 36) (.k (.i .i64 3)))]
abbrev r_conn_act_ask_8 : List COp := [o 38 (.mv (.tm 0)), o 39 (.mv (.tm 0)), o 40 (.nilck (.tm 39)), o 41 (.faddr 0 (.tm 40)), o 42 (.load false 1 (.tm 41)), o 43 (.nilck (.tm 42)), o 44 (.faddr 2 (.tm 43)), o 45 (.faddr 2 (.tm 44)), o 46 (.load false 1 (.tm 45)), o 47 (.mv (.tm 2)), o 48 (.build [(.i .i64 0), (.i .i64 0), (.i .u32 0), (.i .u32 0), (.i .u32 0), (.sl none 0 (some 0) 0), (.b false), (.s [])] [(0, 1, (.k (.i .i64 7))), (1, 1, (.tm 46)), (7, 1, (.tm 47))]), oC 49 n_conn_act_out [(.tm 38), (.tm 48)]]
abbrev r_conn_act_ask_9 : List COp := [o 50 (.mv (.tm 0)), oC 51 n_conn_act_to [(.tm 50), (.k (.i .i64 1))]]
abbrev r_conn_act_ask_10 : List COp := [o 52 (.mv (.tm 0)), o 53 (.mv (.tm 2)), oC 54 n_conn_act_leave [(.tm 52), (.tm 53)]]
abbrev r_conn_act_ask_11 : List COp := [o 56 (.bin .eql (.tm 6) (.k (.i .i64 4))), o 55 (.mv (.tm 56))]
abbrev r_conn_act_ask_12 : List COp := [o 57 (.mv (.tm 0)), o 58 (.mv (.tm 2)), oC 59 n_conn_act_begin [(.tm 57), (.k (.i .i64 5)), (.tm 58)]]
abbrev r_conn_act_ask_13 : List COp := [o 61 (.bin .eql (.tm 6) (.k (.i .i64 5))), o 60 (.mv (.tm 61))]
abbrev r_conn_act_ask_14 : List COp := [o 62 (.mv (.tm 0)), o 63 (.mv (.tm 0)), o 64 (.nilck (.tm 63)), o 65 (.faddr 0 (.tm 64)), o 66 (.load false 1 (.tm 65)), o 67 (.nilck (.tm 66)), o 68 (.faddr 2 (.tm 67)), o 69 (.faddr 2 (.tm 68)), o 70 (.load false 1 (.tm 69)), o 71 (.build [(.i .i64 0), (.i .i64 0), (.i .u32 0), (.i .u32 0), (.i .u32 0), (.sl none 0 (some 0) 0), (.b false), (.s [])] [(0, 1, (.k (.i .i64 6))), (1, 1, (.tm 70))]), oC 72 n_conn_act_out [(.tm 62), (.tm 71)]]
abbrev r_conn_act_ask_15 : List COp := [o 73 (.mv (.tm 0)), oC 74 n_conn_act_ready [(.tm 73)]]
abbrev r_conn_act_ask_16 : List COp := [o 76 (.bin .eql (.tm 6) (.k (.i .i64 6))), o 75 (.mv (.tm 76))]
abbrev r_conn_act_ask_17 : List COp := [o 77 (.mv (.tm 0)), o 78 (.nilck (.tm 77)), o 79 (.faddr 0 (.tm 78)), o 80 (.load false 1 (.tm 79)), o 81 (.nilck (.tm 80)), o 82 (.faddr 2 (.tm 81)), o 83 (.faddr 0 (.tm 82)), o 84 (.load false 1 (.tm 83)), o 85 (.bin .eql (.tm 84) (.k (.i .i64 9)))]
abbrev r_conn_act_ask_18 : List COp := [o 86 (.mv (.tm 0)), o 87 (.mv (.tm 0)), o 88 (.nilck (.tm 87)), o 89 (.faddr 0 (.tm 88)), o 90 (.load false 1 (.tm 89)), o 91 (.nilck (.tm 90)), o 92 (.faddr 2 (.tm 91)), o 93 (.faddr 2 (.tm 92)), o 94 (.load false 1 (.tm 93)), o 95 (.build [(.i .i64 0), (.i .i64 0), (.i .u32 0), (.i .u32 0), (.i .u32 0), (.sl none 0 (some 0) 0), (.b false), (.s [])] [(0, 1, (.k (.i .i64 15))), (1, 1, (.tm 94))]), oC 96 n_conn_act_out [(.tm 86), (.tm 95)]]
abbrev r_conn_act_ask_19 : List COp := [o 97 (.mv (.tm 0)), oC 98 n_conn_act_ready [(.tm 97)]]
def b_conn_act_ask : C := (.seq (.reg r_conn_act_ask_0) (.blk 0 (.seq (.reg r_conn_act_ask_1) (.cond (.tm 7) (.reg r_conn_act_ask_2) (.seq (.reg r_conn_act_ask_3) (.cond (.tm 12) (.seq (.reg r_conn_act_ask_4) (.reg r_conn_act_ask_5)) (.seq (.reg r_conn_act_ask_6) (.cond (.tm 27) (.seq (.seq (.reg r_conn_act_ask_7) (.cond (.tm 37) (.seq (.reg r_conn_act_ask_8) (.seq (.reg r_conn_act_ask_9) .ret)) .skip)) (.reg r_conn_act_ask_10)) (.seq (.reg r_conn_act_ask_11) (.cond (.tm 55) (.reg r_conn_act_ask_12) (.seq (.reg r_conn_act_ask_13) (.cond (.tm 60) (.seq (.reg r_conn_act_ask_14) (.reg r_conn_act_ask_15)) (.seq (.reg r_conn_act_ask_16) (.cond (.tm 75) (.seq (.seq (.reg r_conn_act_ask_17) (.cond (.tm 85) (.reg r_conn_act_ask_18) .skip)) (.reg r_conn_act_ask_19)) .skip))))))))))))))
abbrev c_conn_act_ask : CF := ⟨99, [], b_conn_act_ask⟩
/-! slices.DeleteFunc[[]polliwog/pdu.PDU,polliwog/pdu.PDU] -/
abbrev r_slices_DeleteFunc_Lpdu_PDU_pdu_PDU_0 : List COp := [o 4 (.mv (.k (.sl none 0 (some 0) 0)))]
abbrev r_slices_DeleteFunc_Lpdu_PDU_pdu_PDU_1 : List COp := [o 8 (.mv (.tm 0)), o 9 (.mv (.tm 1)), oC 10 n_slices_IndexFunc_Lpdu_PDU_pdu_PDU [(.tm 8), (.tm 9)], o 5 (.mv (.tm 10))]
abbrev r_slices_DeleteFunc_Lpdu_PDU_pdu_PDU_2 : List COp := [o 11 (.mv (.tm 5)), o 12 (.bin .eql (.tm 11) (.k (.i .i64 (-1))))]
abbrev r_slices_DeleteFunc_Lpdu_PDU_pdu_PDU_3 : List COp := [o 13 (.mv (.tm 0)), o 4 (.mv (.tm 13))]
abbrev r_slices_DeleteFunc_Lpdu_PDU_pdu_PDU_4 : List COp := [o 14 (.mv (.tm 5)), o 15 (.bin .add (.tm 14) (.k (.i .i64 1))), o 6 (.mv (.tm 15))]
abbrev r_slices_DeleteFunc_Lpdu_PDU_pdu_PDU_5 : List COp := [o 16 (.mv (.tm 6)), o 17 (.mv (.tm 0)), o 18 (.len .slice (.tm 17)), o 19 (.bin .lss (.tm 16) (.tm 18))]
abbrev r_slices_DeleteFunc_Lpdu_PDU_pdu_PDU_6 : List COp := [o 22 (.mv (.tm 0)), o 23 (.mv (.tm 6)), o 24 (.iaddrL 8 (.tm 22) (.tm 23)), o 25 (.load true 8 (.tm 24)), o 7 (.alloc [(.i .i64 0), (.i .i64 0), (.i .u32 0), (.i .u32 0), (.i .u32 0), (.sl none 0 (some 0) 0), (.b false), (.s [])] 59), oN (.store 8 (.tm 7) (.tm 25))]
abbrev r_slices_DeleteFunc_Lpdu_PDU_pdu_PDU_7 : List COp := [o 26 (.mv (.tm 1)), o 27 (.load true 8 (.tm 7)), ⟨(some 28), (.callv (.tm 26) [(.tm 27)]), none⟩, o 29 (.un .not (.tm 28))]
abbrev r_slices_DeleteFunc_Lpdu_PDU_pdu_PDU_8 : List COp := [o 30 (.mv (.tm 0)), o 31 (.mv (.tm 5)), o 32 (.load true 8 (.tm 7)), o 33 (.iaddrL 8 (.tm 30) (.tm 31)), oN (.store 8 (.tm 33) (.tm 32))]
abbrev r_slices_DeleteFunc_Lpdu_PDU_pdu_PDU_9 : List COp := [o 34 (.mv (.tm 5)), o 35 (.bin .add (.tm 34) (.k (.i .i64 1))), o 5 (.mv (.tm 35))]
abbrev r_slices_DeleteFunc_Lpdu_PDU_pdu_PDU_10 : List COp := [o 20 (.mv (.tm 6)), o 21 (.bin .add (.tm 20) (.k (.i .i64 1))), o 6 (.mv (.tm 21))]
def l_slices_DeleteFunc_Lpdu_PDU_pdu_PDU_0 : C := (.seq (.seq (.reg r_slices_DeleteFunc_Lpdu_PDU_pdu_PDU_5) (.cond (.tm 19) .skip (.exit 0))) (.seq (.blk 1 (.seq (.reg r_slices_DeleteFunc_Lpdu_PDU_pdu_PDU_6) (.seq (.reg r_slices_DeleteFunc_Lpdu_PDU_pdu_PDU_7) (.cond (.tm 29) (.seq (.reg r_slices_DeleteFunc_Lpdu_PDU_pdu_PDU_8) (.reg r_slices_DeleteFunc_Lpdu_PDU_pdu_PDU_9)) .skip)))) (.reg r_slices_DeleteFunc_Lpdu_PDU_pdu_PDU_10)))
abbrev r_slices_DeleteFunc_Lpdu_PDU_pdu_PDU_11 : List COp := [o 36 (.mv (.tm 0)), o 37 (.mv (.tm 5)), o 38 (.sliceL 8 (.tm 36) (some (.tm 37)) none none), oN (.clearL 8 [(.i .i64 0), (.i .i64 0), (.i .u32 0), (.i .u32 0), (.i .u32 0), (.sl none 0 (some 0) 0), (.b false), (.s [])] (.tm 38))]
abbrev r_slices_DeleteFunc_Lpdu_PDU_pdu_PDU_12 : List COp := [o 39 (.mv (.tm 0)), o 40 (.mv (.tm 5)), o 41 (.sliceL 8 (.tm 39) none (some (.tm 40)) none), o 4 (.mv (.tm 41))]
def b_slices_DeleteFunc_Lpdu_PDU_pdu_PDU : C := (.seq (.reg r_slices_DeleteFunc_Lpdu_PDU_pdu_PDU_0) (.seq (.reg r_slices_DeleteFunc_Lpdu_PDU_pdu_PDU_1) (.seq (.seq (.reg r_slices_DeleteFunc_Lpdu_PDU_pdu_PDU_2) (.cond (.tm 12) (.seq (.reg r_slices_DeleteFunc_Lpdu_PDU_pdu_PDU_3) .ret) .skip)) (.seq (.seq (.reg r_slices_DeleteFunc_Lpdu_PDU_pdu_PDU_4) (.blk 0 (.loop l_slices_DeleteFunc_Lpdu_PDU_pdu_PDU_0))) (.seq (.reg r_slices_DeleteFunc_Lpdu_PDU_pdu_PDU_11) (.seq (.reg r_slices_DeleteFunc_Lpdu_PDU_pdu_PDU_12) .ret))))))
abbrev c_slices_DeleteFunc_Lpdu_PDU_pdu_PDU : CF := ⟨42, [(.tm 4)], b_slices_DeleteFunc_Lpdu_PDU_pdu_PDU⟩
/-! (*polliwog/node.Node).bring$1 -/
abbrev r_node_Node_bring_1_0 : List COp := [o 2 (.box (.tm 0)), o 3 (.mv (.k (.b false)))]
abbrev r_node_Node_bring_1_1 : List COp := [o 4 (.faddr 0 (.tm 2)), o 5 (.load false 1 (.tm 4)), o 6 (.faddr 0 (.tm 1)), o 7 (.load false 1 (.tm 6)), o 8 (.bin .eql (.tm 5) (.tm 7)), o 3 (.mv (.tm 8))]
def b_node_Node_bring_1 : C := (.seq (.reg r_node_Node_bring_1_0) (.seq (.reg r_node_Node_bring_1_1) .ret))
abbrev c_node_Node_bring_1 : CF := ⟨9, [(.tm 3)], b_node_Node_bring_1⟩
/-! (*polliwog/pace.Pace).Again -/
abbrev r_pace_Pace_Again_0 : List COp := [o 2 (.mv (.tm 0)), o 3 (.nilck (.tm 2)), o 4 (.faddr 0 (.tm 3)), o 5 (.mv (.tm 0)), o 6 (.nilck (.tm 5)), o 7 (.faddr 5 (.tm 6)), o 8 (.faddr 0 (.tm 7)), o 9 (.load false 1 (.tm 8)), oC 10 n_timer_Bank_Start [(.tm 4), (.k (.i .i64 0)), (.tm 9)]]
def b_pace_Pace_Again : C := (.draw r_pace_Pace_Again_0 [] [])
abbrev c_pace_Pace_Again : CF := ⟨11, [], b_pace_Pace_Again⟩
/-! (*polliwog/pace.Pace).Enough -/
abbrev r_pace_Pace_Enough_0 : List COp := [o 2 (.mv (.tm 0)), o 3 (.nilck (.tm 2)), o 4 (.faddr 0 (.tm 3)), oC 5 n_timer_Bank_Stop [(.tm 4), (.k (.i .i64 0))]]
def b_pace_Pace_Enough : C := (.reg r_pace_Pace_Enough_0)
abbrev c_pace_Pace_Enough : CF := ⟨6, [], b_pace_Pace_Enough⟩
/-! (*polliwog/pace.Pace).End -/
abbrev r_pace_Pace_End_0 : List COp := [o 2 (.mv (.tm 0)), o 3 (.bslice 1 [(.i .i64 0)] 4 [(0, (.k (.i .i64 1))), (1, (.k (.i .i64 2))), (2, (.k (.i .i64 3))), (3, (.k (.i .i64 4)))]), oC 4 n_pace_Pace_stop [(.tm 2), (.tm 3)]]
def b_pace_Pace_End : C := (.reg r_pace_Pace_End_0)
abbrev c_pace_Pace_End : CF := ⟨5, [], b_pace_Pace_End⟩
/-! (*polliwog/send.Send).Left -/
abbrev r_send_Send_Left_0 : List COp := [o 2 (.mv (.k (.sl none 0 (some 0) 0)))]
abbrev r_send_Send_Left_1 : List COp := [o 3 (.mv (.k (.sl none 0 (some 0) 0)))]
abbrev r_send_Send_Left_2 : List COp := [o 5 (.mv (.tm 0)), o 6 (.nilck (.tm 5)), o 7 (.faddr 1 (.tm 6)), o 8 (.load false 1 (.tm 7)), o 4 (.mv (.tm 8))]
abbrev r_send_Send_Left_3 : List COp := [o 9 (.mv (.tm 4)), o 10 (.mv (.tm 0)), o 11 (.nilck (.tm 10)), o 12 (.faddr 0 (.tm 11)), o 13 (.load false 1 (.tm 12)), o 14 (.bin .neq (.tm 9) (.tm 13))]
abbrev r_send_Send_Left_4 : List COp := [o 17 (.mv (.tm 3)), o 18 (.mv (.tm 0)), o 19 (.nilck (.tm 18)), o 20 (.faddr 8 (.tm 19)), o 21 (.load false 1 (.tm 20)), o 22 (.mv (.tm 4)), o 23 (.lookup .int (.g [(.s []), (.i .u32 0)]) (.tm 21) (.tm 22) false), o 24 (.field 0 1 false (.tm 23)), o 25 (.bslice 1 [(.s [])] 1 [(0, (.tm 24))]), o 26 (.append false 1 16 (.tm 17) (.tm 25)), o 3 (.mv (.tm 26))]
abbrev r_send_Send_Left_5 : List COp := [o 15 (.mv (.tm 4)), oC 16 n_seq_Num_Add [(.tm 15), (.k (.i .i64 1))], o 4 (.mv (.tm 16))]
def l_send_Send_Left_0 : C := (.seq (.seq (.reg r_send_Send_Left_3) (.cond (.tm 14) .skip (.exit 0))) (.seq (.blk 1 (.reg r_send_Send_Left_4)) (.reg r_send_Send_Left_5)))
abbrev r_send_Send_Left_6 : List COp := [o 27 (.mv (.tm 3)), o 28 (.mv (.tm 0)), o 29 (.nilck (.tm 28)), o 30 (.faddr 7 (.tm 29)), o 31 (.load false 1 (.tm 30)), oC 32 n_ring_Ring_string_All [(.tm 31)], o 33 (.append false 1 16 (.tm 27) (.tm 32)), o 2 (.mv (.tm 33))]
def b_send_Send_Left : C := (.seq (.reg r_send_Send_Left_0) (.seq (.reg r_send_Send_Left_1) (.seq (.seq (.reg r_send_Send_Left_2) (.blk 0 (.loop l_send_Send_Left_0))) (.seq (.reg r_send_Send_Left_6) .ret))))
abbrev c_send_Send_Left : CF := ⟨34, [(.tm 2)], b_send_Send_Left⟩
/-! (*polliwog/node.Node).over -/
abbrev r_node_Node_over_0 : List COp := [o 2 (.mv (.tm 0)), o 3 (.mv (.tm 0)), o 4 (.nilck (.tm 2)), o 5 (.faddr 17 (.tm 4)), oN (.store 1 (.tm 5) (.k (.b false))), o 6 (.nilck (.tm 3)), o 7 (.faddr 18 (.tm 6)), oN (.store 1 (.tm 7) (.k (.b false)))]
def b_node_Node_over : C := (.reg r_node_Node_over_0)
abbrev c_node_Node_over : CF := ⟨8, [], b_node_Node_over⟩
/-! polliwog/send.New -/
abbrev r_send_New_0 : List COp := [o 6 (.mv (.k (.p none)))]
abbrev r_send_New_1 : List COp := [o 9 (.mv (.tm 0)), oC 10 n_seq_Num_Low [(.tm 9)], o 7 (.mv (.tm 10))]
abbrev r_send_New_2 : List COp := [o 8 (.mv (.fn n_send_New_1))]
abbrev r_send_New_3 : List COp := [o 11 (.mv (.tm 7)), o 12 (.mv (.tm 7)), o 13 (.mv (.tm 7)), o 14 (.mv (.tm 7)), o 15 (.mv (.tm 7)), o 16 (.mv (.tm 8)), o 17 (.mv (.tm 2)), ⟨(some 18), (.callv (.tm 16) [(.tm 17)]), none⟩, o 19 (.mv (.tm 8)), o 20 (.mv (.tm 1)), ⟨(some 21), (.callv (.tm 19) [(.tm 20)]), none⟩, oC 22 n_ring_New_string [(.tm 21)], o 23 (.mkmap), o 24 (.build [(.i .u32 0), (.i .u32 0), (.i .u32 0), (.i .u32 0), (.i .u32 0), (.i .i64 0), (.i .i64 0), (.p none), (.m none), (.sl none 0 (some 0) 0)] [(0, 1, (.tm 11)), (1, 1, (.tm 12)), (2, 1, (.tm 13)), (3, 1, (.tm 14)), (4, 1, (.tm 15)), (6, 1, (.tm 18)), (7, 1, (.tm 22)), (8, 1, (.tm 23))]), o 25 (.box (.tm 24)), o 6 (.mv (.tm 25))]
def b_send_New : C := (.seq (.reg r_send_New_0) (.seq (.reg r_send_New_1) (.seq (.reg r_send_New_2) (.seq (.reg r_send_New_3) .ret))))
abbrev c_send_New : CF := ⟨26, [(.tm 6)], b_send_New⟩
/-! polliwog/recv.New -/
abbrev r_recv_New_0 : List COp := [o 4 (.mv (.k (.p none)))]
abbrev r_recv_New_1 : List COp := [o 7 (.mv (.tm 0)), oC 8 n_seq_Num_Low [(.tm 7)], o 5 (.mv (.tm 8))]
abbrev r_recv_New_2 : List COp := [o 9 (.mv (.tm 1)), o 10 (.mxmn false [(.tm 9), (.k (.i .i64 64))]), o 11 (.mxmn true [(.k (.i .i64 1)), (.tm 10)]), o 6 (.mv (.tm 11))]
abbrev r_recv_New_3 : List COp := [o 12 (.mv (.tm 5)), o 13 (.mv (.tm 5)), o 14 (.mv (.tm 5)), o 15 (.mv (.tm 6)), oC 16 n_seq_Num_Add [(.tm 14), (.tm 15)], o 17 (.mv (.tm 6)), o 18 (.mkmap), o 19 (.build [(.i .u32 0), (.i .u32 0), (.i .u32 0), (.i .i64 0), (.m none), (.sl none 0 (some 0) 0), (.sl none 0 (some 0) 0)] [(0, 1, (.tm 12)), (1, 1, (.tm 13)), (2, 1, (.tm 16)), (3, 1, (.tm 17)), (4, 1, (.tm 18))]), o 20 (.box (.tm 19)), o 4 (.mv (.tm 20))]
def b_recv_New : C := (.seq (.reg r_recv_New_0) (.seq (.reg r_recv_New_1) (.seq (.reg r_recv_New_2) (.seq (.reg r_recv_New_3) .ret))))
abbrev c_recv_New : CF := ⟨21, [(.tm 4)], b_recv_New⟩
/-! (*polliwog/send.Send).Open -/
abbrev r_send_Send_Open_0 : List COp := [o 5 (.mv (.tm 0)), o 6 (.nilck (.tm 5)), o 7 (.faddr 1 (.tm 6)), o 8 (.load false 1 (.tm 7)), o 9 (.mv (.tm 1)), oC 10 n_seq_Num_To [(.tm 8), (.tm 9)], o 4 (.mv (.tm 10))]
abbrev r_send_Send_Open_1 : List COp := [o 11 (.mv (.tm 4)), o 12 (.bin .leq (.tm 11) (.k (.i .i64 8388608))), o 13 (.mv (.tm 12)), ⟨(some 14), (.op (.mv (.tm 4))), (some (13, true))⟩, ⟨(some 15), (.op (.mv (.tm 0))), (some (13, true))⟩, ⟨(some 16), (.op (.nilck (.tm 15))), (some (13, true))⟩, ⟨(some 17), (.op (.faddr 1 (.tm 16))), (some (13, true))⟩, ⟨(some 18), (.op (.load false 1 (.tm 17))), (some (13, true))⟩, ⟨(some 19), (.op (.mv (.tm 0))), (some (13, true))⟩, ⟨(some 20), (.op (.nilck (.tm 19))), (some (13, true))⟩, ⟨(some 21), (.op (.faddr 2 (.tm 20))), (some (13, true))⟩, ⟨(some 22), (.op (.load false 1 (.tm 21))), (some (13, true))⟩, ⟨(some 23), (.callf n_seq_Num_To [(.tm 18), (.tm 22)]), (some (13, true))⟩, ⟨(some 24), (.op (.bin .geq (.tm 14) (.tm 23))), (some (13, true))⟩, o 25 (.pick (.tm 13) (.tm 24) (.k (.b false)))]
abbrev r_send_Send_Open_2 : List COp := [o 26 (.mv (.tm 0)), o 27 (.mv (.tm 1)), oC 28 n_seq_Num_Low [(.tm 27)], o 29 (.nilck (.tm 26)), o 30 (.faddr 2 (.tm 29)), oN (.store 1 (.tm 30) (.tm 28))]
def b_send_Send_Open : C := (.seq (.reg r_send_Send_Open_0) (.seq (.draw r_send_Send_Open_1 [] []) (.cond (.tm 25) (.reg r_send_Send_Open_2) .skip)))
abbrev c_send_Send_Open : CF := ⟨31, [], b_send_Send_Open⟩
/-! (*polliwog/pace.Pace).Begin -/
abbrev r_pace_Pace_Begin_0 : List COp := [o 2 (.mv (.tm 0)), oC 3 n_pace_Pace_End [(.tm 2)]]
abbrev r_pace_Pace_Begin_1 : List COp := [o 4 (.mv (.tm 0)), o 5 (.nilck (.tm 4)), o 6 (.faddr 0 (.tm 5)), o 7 (.mv (.tm 0)), o 8 (.nilck (.tm 7)), o 9 (.faddr 5 (.tm 8)), o 10 (.faddr 1 (.tm 9)), o 11 (.load false 1 (.tm 10)), oC 12 n_timer_Bank_Start [(.tm 6), (.k (.i .i64 1)), (.tm 11)]]
abbrev r_pace_Pace_Begin_2 : List COp := [o 13 (.mv (.tm 0)), oC 14 n_pace_Pace_watch [(.tm 13)]]
def b_pace_Pace_Begin : C := (.seq (.reg r_pace_Pace_Begin_0) (.seq (.draw r_pace_Pace_Begin_1 [] []) (.reg r_pace_Pace_Begin_2)))
abbrev c_pace_Pace_Begin : CF := ⟨15, [], b_pace_Pace_Begin⟩
/-! (*polliwog/ring.Ring[polliwog/pdu.PDU]).First -/
abbrev r_ring_Ring_pdu_PDU_First_0 : List COp := [o 2 (.alloc [(.i .i64 0), (.i .i64 0), (.i .u32 0), (.i .u32 0), (.i .u32 0), (.sl none 0 (some 0) 0), (.b false), (.s [])] 59), o 3 (.mv (.k (.i .i64 0)))]
abbrev r_ring_Ring_pdu_PDU_First_1 : List COp := [o 5 (.mv (.tm 0)), o 6 (.nilck (.tm 5)), o 7 (.faddr 2 (.tm 6)), o 8 (.load false 1 (.tm 7)), o 9 (.bin .eql (.tm 8) (.k (.i .i64 0)))]
abbrev r_ring_Ring_pdu_PDU_First_2 : List COp := [o 4 (.alloc [(.i .i64 0), (.i .i64 0), (.i .u32 0), (.i .u32 0), (.i .u32 0), (.sl none 0 (some 0) 0), (.b false), (.s [])] 59)]
abbrev r_ring_Ring_pdu_PDU_First_3 : List COp := [o 10 (.load true 8 (.tm 4)), oN (.store 8 (.tm 2) (.tm 10)), o 3 (.mv (.k (.i .i64 9)))]
abbrev r_ring_Ring_pdu_PDU_First_4 : List COp := [o 11 (.mv (.tm 0)), o 12 (.nilck (.tm 11)), o 13 (.faddr 0 (.tm 12)), o 14 (.load false 1 (.tm 13)), o 15 (.mv (.tm 0)), o 16 (.nilck (.tm 15)), o 17 (.faddr 1 (.tm 16)), o 18 (.load false 1 (.tm 17)), o 19 (.iaddrL 8 (.tm 14) (.tm 18)), o 20 (.load true 8 (.tm 19)), oN (.store 8 (.tm 2) (.tm 20)), o 3 (.mv (.k (.i .i64 0)))]
def b_ring_Ring_pdu_PDU_First : C := (.seq (.reg r_ring_Ring_pdu_PDU_First_0) (.seq (.seq (.reg r_ring_Ring_pdu_PDU_First_1) (.cond (.tm 9) (.seq (.reg r_ring_Ring_pdu_PDU_First_2) (.seq (.reg r_ring_Ring_pdu_PDU_First_3) .ret)) .skip)) (.seq (.draw r_ring_Ring_pdu_PDU_First_4 [] []) .ret)))
abbrev c_ring_Ring_pdu_PDU_First : CF := ⟨21, [(.cell 2 true 8), (.tm 3)], b_ring_Ring_pdu_PDU_First⟩
/-! (*polliwog/recv.Recv).renew -/
abbrev r_recv_Recv_renew_0 : List COp := [o 2 (.mv (.tm 0)), o 3 (.mv (.tm 0)), o 4 (.nilck (.tm 3)), o 5 (.faddr 0 (.tm 4)), o 6 (.load false 1 (.tm 5)), o 7 (.mv (.tm 0)), o 8 (.nilck (.tm 7)), o 9 (.faddr 2 (.tm 8)), o 10 (.load false 1 (.tm 9)), o 11 (.mv (.tm 0)), o 12 (.nilck (.tm 11)), o 13 (.faddr 0 (.tm 12)), o 14 (.load false 1 (.tm 13)), o 15 (.mv (.tm 0)), o 16 (.nilck (.tm 15)), o 17 (.faddr 3 (.tm 16)), o 18 (.load false 1 (.tm 17)), o 19 (.mv (.tm 0)), o 20 (.nilck (.tm 19)), o 21 (.faddr 5 (.tm 20)), o 22 (.load false 1 (.tm 21)), o 23 (.len .slice (.tm 22)), o 24 (.bin .sub (.tm 18) (.tm 23)), oC 25 n_seq_Num_Add [(.tm 14), (.tm 24)], oC 26 n_seq_Max [(.tm 6), (.tm 10), (.tm 25)], o 27 (.nilck (.tm 2)), o 28 (.faddr 2 (.tm 27)), oN (.store 1 (.tm 28) (.tm 26))]
def b_recv_Recv_renew : C := (.draw r_recv_Recv_renew_0 [(4, [24]), (8, [24])] [])
abbrev c_recv_Recv_renew : CF := ⟨29, [], b_recv_Recv_renew⟩
/-! polliwog/gaps.List -/
abbrev r_gaps_List_0 : List COp := [o 4 (.mv (.k (.sl none 0 (some 0) 0)))]
abbrev r_gaps_List_1 : List COp := [o 5 (.mv (.k (.sl none 0 (some 0) 0)))]
abbrev r_gaps_List_2 : List COp := [o 8 (.mv (.tm 1)), o 9 (.build [(.i .i64 0), (.i .i64 0)] [(0, 1, (.k (.i .i64 0))), (1, 1, (.k (.i .i64 8388609)))]), o 10 (.bslice 2 [(.i .i64 0), (.i .i64 0)] 1 [(0, (.tm 9))]), oC 11 n_span_Of [(.tm 10)], oC 12 n_span_Set_Both [(.tm 8), (.tm 11)], o 13 (.len .slice (.tm 12)), o 14 (.mv (.k (.i .i64 0)))]
abbrev r_gaps_List_3 : List COp := [o 15 (.bin .lss (.tm 14) (.tm 13))]
abbrev r_gaps_List_4 : List COp := [o 16 (.iaddrL 2 (.tm 12) (.tm 14)), o 17 (.load true 2 (.tm 16)), o 7 (.alloc [(.i .i64 0), (.i .i64 0)] 252), oN (.store 2 (.tm 7) (.tm 17))]
abbrev r_gaps_List_5 : List COp := [o 18 (.mv (.tm 5)), o 19 (.mv (.tm 0)), o 20 (.faddr 0 (.tm 7)), o 21 (.load false 1 (.tm 20)), o 23 (.mv (.tm 0)), o 24 (.faddr 1 (.tm 7)), o 25 (.load false 1 (.tm 24)), oC 22 n_seq_Num_Add [(.tm 19), (.tm 21)], oC 26 n_seq_Num_Add [(.tm 23), (.tm 25)], o 27 (.bslice 1 [(.i .u32 0)] 2 [(0, (.tm 22)), (1, (.tm 26))]), o 28 (.append false 1 4 (.tm 18) (.tm 27)), o 5 (.mv (.tm 28))]
abbrev r_gaps_List_6 : List COp := [o 29 (.bin .add (.tm 14) (.k (.i .i64 1))), o 14 (.mv (.tm 29))]
def l_gaps_List_0 : C := (.seq (.reg r_gaps_List_3) (.seq (.cond (.tm 15) .skip (.exit 0)) (.seq (.blk 1 (.seq (.reg r_gaps_List_4) (.draw r_gaps_List_5 [(6, [8])] []))) (.reg r_gaps_List_6))))
abbrev r_gaps_List_7 : List COp := [o 30 (.mv (.tm 5)), o 4 (.mv (.tm 30))]
def b_gaps_List : C := (.seq (.reg r_gaps_List_0) (.seq (.reg r_gaps_List_1) (.seq (.seq (.reg r_gaps_List_2) (.blk 0 (.loop l_gaps_List_0))) (.seq (.reg r_gaps_List_7) .ret))))
abbrev c_gaps_List : CF := ⟨31, [(.tm 4)], b_gaps_List⟩
/-! (*polliwog/recv.Recv).still -/
abbrev r_recv_Recv_still_0 : List COp := [o 3 (.box (.tm 1)), o 4 (.mv (.k (.sl none 0 (some 0) 0)))]
abbrev r_recv_Recv_still_1 : List COp := [o 6 (.mv (.tm 0)), o 7 (.nilck (.tm 6)), o 8 (.faddr 0 (.tm 7)), o 9 (.load false 1 (.tm 8)), o 10 (.faddr 1 (.tm 3)), o 11 (.load false 1 (.tm 10)), oC 12 n_seq_Num_To [(.tm 9), (.tm 11)], o 5 (.mv (.tm 12))]
abbrev r_recv_Recv_still_2 : List COp := [o 13 (.mv (.tm 5)), o 14 (.mv (.tm 0)), o 15 (.nilck (.tm 14)), o 16 (.faddr 0 (.tm 15)), o 17 (.load false 1 (.tm 16)), o 18 (.mv (.tm 0)), o 19 (.nilck (.tm 18)), o 20 (.faddr 1 (.tm 19)), o 21 (.load false 1 (.tm 20)), oC 22 n_seq_Num_To [(.tm 17), (.tm 21)], o 23 (.bin .gtr (.tm 13) (.tm 22))]
abbrev r_recv_Recv_still_3 : List COp := [o 4 (.mv (.k (.sl none 0 (some 0) 0)))]
abbrev r_recv_Recv_still_4 : List COp := [o 24 (.mv (.tm 0)), o 26 (.mv (.tm 5)), o 27 (.faddr 0 (.tm 3)), o 28 (.load false 1 (.tm 27)), o 29 (.faddr 1 (.tm 3)), o 30 (.load false 1 (.tm 29)), o 33 (.mv (.tm 5)), oC 25 n_recv_Recv_missing [(.tm 24)], oC 31 n_seq_Num_To [(.tm 28), (.tm 30)], o 32 (.bin .sub (.tm 26) (.tm 31)), o 34 (.build [(.i .i64 0), (.i .i64 0)] [(0, 1, (.tm 32)), (1, 1, (.tm 33))]), o 35 (.bslice 2 [(.i .i64 0), (.i .i64 0)] 1 [(0, (.tm 34))]), oC 36 n_span_Of [(.tm 35)], oC 37 n_span_Set_Both [(.tm 25), (.tm 36)], o 4 (.mv (.tm 37))]
def b_recv_Recv_still : C := (.seq (.reg r_recv_Recv_still_0) (.seq (.draw r_recv_Recv_still_1 [] []) (.seq (.seq (.draw r_recv_Recv_still_2 [] []) (.cond (.tm 23) (.seq (.reg r_recv_Recv_still_3) .ret) .skip)) (.seq (.draw r_recv_Recv_still_4 [(3, [8]), (5, [8])] []) .ret))))
abbrev c_recv_Recv_still : CF := ⟨38, [(.tm 4)], b_recv_Recv_still⟩
/-! (*polliwog/send.Send).out -/
abbrev r_send_Send_out_0 : List COp := [o 6 (.mv (.tm 0)), o 7 (.nilck (.tm 6)), o 8 (.faddr 8 (.tm 7)), o 9 (.load false 1 (.tm 8)), o 10 (.mv (.tm 1)), o 11 (.mv (.tm 2)), o 12 (.mv (.tm 0)), o 13 (.nilck (.tm 12)), o 14 (.faddr 3 (.tm 13)), o 15 (.load false 1 (.tm 14)), o 16 (.build [(.s []), (.i .u32 0)] [(0, 1, (.tm 11)), (1, 1, (.tm 15))]), oN (.mupd .int (.tm 9) (.tm 10) (.tm 16))]
abbrev r_send_Send_out_1 : List COp := [o 17 (.mv (.tm 0)), o 18 (.nilck (.tm 17)), o 19 (.faddr 5 (.tm 18)), o 20 (.load false 1 (.tm 19)), o 21 (.bin .add (.tm 20) (.k (.i .i64 1))), o 22 (.nilck (.tm 17)), o 23 (.faddr 5 (.tm 22)), oN (.store 1 (.tm 23) (.tm 21))]
def b_send_Send_out : C := (.seq (.draw r_send_Send_out_0 [] []) (.reg r_send_Send_out_1))
abbrev c_send_Send_out : CF := ⟨24, [], b_send_Send_out⟩
/-! (*polliwog/ring.Ring[string]).Take -/
abbrev r_ring_Ring_string_Take_0 : List COp := [o 2 (.mv (.k (.s []))), o 3 (.mv (.k (.i .i64 0)))]
abbrev r_ring_Ring_string_Take_1 : List COp := [o 8 (.mv (.tm 0)), oC 9 n_ring_Ring_string_First [(.tm 8)], o 7 (.mv (.tm 9)), o 10 (.extract (.tm 7) 0), o 11 (.extract (.tm 7) 1), o 4 (.mv (.tm 10)), o 5 (.mv (.tm 11))]
abbrev r_ring_Ring_string_Take_2 : List COp := [o 12 (.mv (.tm 5)), o 13 (.bin .eql (.tm 12) (.k (.i .i64 0)))]
abbrev r_ring_Ring_string_Take_3 : List COp := [o 6 (.mv (.k (.s [])))]
abbrev r_ring_Ring_string_Take_4 : List COp := [o 14 (.mv (.tm 0)), o 15 (.nilck (.tm 14)), o 16 (.faddr 0 (.tm 15)), o 17 (.load false 1 (.tm 16)), o 18 (.mv (.tm 0)), o 19 (.nilck (.tm 18)), o 20 (.faddr 1 (.tm 19)), o 21 (.load false 1 (.tm 20)), o 22 (.mv (.tm 6)), o 23 (.iaddrL 1 (.tm 17) (.tm 21)), oN (.store 1 (.tm 23) (.tm 22))]
abbrev r_ring_Ring_string_Take_5 : List COp := [o 24 (.mv (.tm 0)), o 25 (.mv (.tm 0)), oC 26 n_ring_Ring_string_place [(.tm 25), (.k (.i .i64 1))], o 27 (.nilck (.tm 24)), o 28 (.faddr 1 (.tm 27)), oN (.store 1 (.tm 28) (.tm 26))]
abbrev r_ring_Ring_string_Take_6 : List COp := [o 29 (.mv (.tm 0)), o 30 (.nilck (.tm 29)), o 31 (.faddr 2 (.tm 30)), o 32 (.load false 1 (.tm 31)), o 33 (.bin .sub (.tm 32) (.k (.i .i64 1))), o 34 (.nilck (.tm 29)), o 35 (.faddr 2 (.tm 34)), oN (.store 1 (.tm 35) (.tm 33))]
abbrev r_ring_Ring_string_Take_7 : List COp := [o 36 (.mv (.tm 4)), o 37 (.mv (.tm 5)), o 2 (.mv (.tm 36)), o 3 (.mv (.tm 37))]
def b_ring_Ring_string_Take : C := (.seq (.reg r_ring_Ring_string_Take_0) (.seq (.reg r_ring_Ring_string_Take_1) (.seq (.seq (.reg r_ring_Ring_string_Take_2) (.cond (.tm 13) (.seq (.reg r_ring_Ring_string_Take_3) (.seq (.draw r_ring_Ring_string_Take_4 [] []) (.seq (.reg r_ring_Ring_string_Take_5) (.reg r_ring_Ring_string_Take_6)))) .skip)) (.seq (.reg r_ring_Ring_string_Take_7) .ret))))
abbrev c_ring_Ring_string_Take : CF := ⟨38, [(.tm 2), (.tm 3)], b_ring_Ring_string_Take⟩
/-! polliwog/pdu.shapeOf -/
abbrev r_pdu_shapeOf_0 : List COp := [o 2 (.alloc [(.i .i64 0), (.b false), (.b false), (.i .i64 0), (.b false), (.b false), (.b false), (.b false)] 221)]
abbrev r_pdu_shapeOf_1 : List COp := [o 3 (.mv (.tm 0))]
abbrev r_pdu_shapeOf_2 : List COp := [o 5 (.bin .eql (.tm 3) (.k (.i .i64 1))), o 4 (.mv (.tm 5))]
abbrev r_pdu_shapeOf_3 : List COp := [o 6 (.bin .eql (.tm 3) (.k (.i .i64 5))), o 4 (.mv (.tm 6))]
abbrev r_pdu_shapeOf_4 : List COp := [o 7 (.build [(.i .i64 0), (.b false), (.b false), (.i .i64 0), (.b false), (.b false), (.b false), (.b false)] [(0, 1, (.k (.i .i64 64))), (1, 1, (.k (.b true))), (2, 1, (.k (.b true))), (7, 1, (.k (.b true)))]), oN (.store 8 (.tm 2) (.tm 7))]
abbrev r_pdu_shapeOf_5 : List COp := [o 9 (.bin .eql (.tm 3) (.k (.i .i64 2))), o 8 (.mv (.tm 9))]
abbrev r_pdu_shapeOf_6 : List COp := [o 10 (.bin .eql (.tm 3) (.k (.i .i64 6))), o 8 (.mv (.tm 10))]
abbrev r_pdu_shapeOf_7 : List COp := [o 11 (.bin .eql (.tm 3) (.k (.i .i64 9))), o 8 (.mv (.tm 11))]
abbrev r_pdu_shapeOf_8 : List COp := [o 12 (.bin .eql (.tm 3) (.k (.i .i64 15))), o 8 (.mv (.tm 12))]
abbrev r_pdu_shapeOf_9 : List COp := [o 13 (.build [(.i .i64 0), (.b false), (.b false), (.i .i64 0), (.b false), (.b false), (.b false), (.b false)] [(1, 1, (.k (.b true))), (2, 1, (.k (.b true))), (7, 1, (.k (.b true)))]), oN (.store 8 (.tm 2) (.tm 13))]
abbrev r_pdu_shapeOf_10 : List COp := [o 15 (.bin .eql (.tm 3) (.k (.i .i64 7))), o 14 (.mv (.tm 15))]
abbrev r_pdu_shapeOf_11 : List COp := [o 16 (.build [(.i .i64 0), (.b false), (.b false), (.i .i64 0), (.b false), (.b false), (.b false), (.b false)] [(0, 1, (.k (.i .i64 64))), (1, 1, (.k (.b true))), (7, 1, (.k (.b true)))]), oN (.store 8 (.tm 2) (.tm 16))]
abbrev r_pdu_shapeOf_12 : List COp := [o 18 (.bin .eql (.tm 3) (.k (.i .i64 3))), o 17 (.mv (.tm 18))]
abbrev r_pdu_shapeOf_13 : List COp := [o 19 (.build [(.i .i64 0), (.b false), (.b false), (.i .i64 0), (.b false), (.b false), (.b false), (.b false)] [(0, 1, (.k (.i .i64 64))), (1, 1, (.k (.b true))), (6, 1, (.k (.b true))), (7, 1, (.k (.b true)))]), oN (.store 8 (.tm 2) (.tm 19))]
abbrev r_pdu_shapeOf_14 : List COp := [o 21 (.bin .eql (.tm 3) (.k (.i .i64 4))), o 20 (.mv (.tm 21))]
abbrev r_pdu_shapeOf_15 : List COp := [o 22 (.build [(.i .i64 0), (.b false), (.b false), (.i .i64 0), (.b false), (.b false), (.b false), (.b false)] [(1, 1, (.k (.b true))), (7, 1, (.k (.b true)))]), oN (.store 8 (.tm 2) (.tm 22))]
abbrev r_pdu_shapeOf_16 : List COp := [o 24 (.bin .eql (.tm 3) (.k (.i .i64 8))), o 23 (.mv (.tm 24))]
abbrev r_pdu_shapeOf_17 : List COp := [o 25 (.build [(.i .i64 0), (.b false), (.b false), (.i .i64 0), (.b false), (.b false), (.b false), (.b false)] [(0, 1, (.k (.i .i64 200))), (2, 1, (.k (.b true))), (7, 1, (.k (.b true)))]), oN (.store 8 (.tm 2) (.tm 25))]
abbrev r_pdu_shapeOf_18 : List COp := [o 27 (.bin .eql (.tm 3) (.k (.i .i64 10))), o 26 (.mv (.tm 27))]
abbrev r_pdu_shapeOf_19 : List COp := [o 28 (.build [(.i .i64 0), (.b false), (.b false), (.i .i64 0), (.b false), (.b false), (.b false), (.b false)] [(2, 1, (.k (.b true))), (4, 1, (.k (.b true))), (7, 1, (.k (.b true)))]), oN (.store 8 (.tm 2) (.tm 28))]
abbrev r_pdu_shapeOf_20 : List COp := [o 30 (.bin .eql (.tm 3) (.k (.i .i64 11))), o 29 (.mv (.tm 30))]
abbrev r_pdu_shapeOf_21 : List COp := [o 31 (.build [(.i .i64 0), (.b false), (.b false), (.i .i64 0), (.b false), (.b false), (.b false), (.b false)] [(2, 1, (.k (.b true))), (3, 1, (.k (.i .i64 (-1)))), (4, 1, (.k (.b true))), (5, 1, (.k (.b true))), (7, 1, (.k (.b true)))]), oN (.store 8 (.tm 2) (.tm 31))]
abbrev r_pdu_shapeOf_22 : List COp := [o 33 (.bin .eql (.tm 3) (.k (.i .i64 12))), o 32 (.mv (.tm 33))]
abbrev r_pdu_shapeOf_23 : List COp := [o 34 (.build [(.i .i64 0), (.b false), (.b false), (.i .i64 0), (.b false), (.b false), (.b false), (.b false)] [(2, 1, (.k (.b true))), (3, 1, (.k (.i .i64 2))), (5, 1, (.k (.b true))), (7, 1, (.k (.b true)))]), oN (.store 8 (.tm 2) (.tm 34))]
abbrev r_pdu_shapeOf_24 : List COp := [o 36 (.bin .eql (.tm 3) (.k (.i .i64 13))), o 35 (.mv (.tm 36))]
abbrev r_pdu_shapeOf_25 : List COp := [o 37 (.bin .eql (.tm 3) (.k (.i .i64 14))), o 35 (.mv (.tm 37))]
abbrev r_pdu_shapeOf_26 : List COp := [o 38 (.build [(.i .i64 0), (.b false), (.b false), (.i .i64 0), (.b false), (.b false), (.b false), (.b false)] [(0, 1, (.k (.i .i64 200))), (7, 1, (.k (.b true)))]), oN (.store 8 (.tm 2) (.tm 38))]
abbrev r_pdu_shapeOf_27 : List COp := [o 39 (.build [(.i .i64 0), (.b false), (.b false), (.i .i64 0), (.b false), (.b false), (.b false), (.b false)] []), oN (.store 8 (.tm 2) (.tm 39))]
def b_pdu_shapeOf : C := (.seq (.reg r_pdu_shapeOf_0) (.seq (.seq (.reg r_pdu_shapeOf_1) (.blk 0 (.seq (.seq (.reg r_pdu_shapeOf_2) (.cond (.tm 4) .skip (.reg r_pdu_shapeOf_3))) (.cond (.tm 4) (.seq (.reg r_pdu_shapeOf_4) .ret) (.seq (.seq (.reg r_pdu_shapeOf_5) (.cond (.tm 8) .skip (.seq (.reg r_pdu_shapeOf_6) (.cond (.tm 8) .skip (.seq (.reg r_pdu_shapeOf_7) (.cond (.tm 8) .skip (.reg r_pdu_shapeOf_8))))))) (.cond (.tm 8) (.seq (.reg r_pdu_shapeOf_9) .ret) (.seq (.reg r_pdu_shapeOf_10) (.cond (.tm 14) (.seq (.reg r_pdu_shapeOf_11) .ret) (.seq (.reg r_pdu_shapeOf_12) (.cond (.tm 17) (.seq (.reg r_pdu_shapeOf_13) .ret) (.seq (.reg r_pdu_shapeOf_14) (.cond (.tm 20) (.seq (.reg r_pdu_shapeOf_15) .ret) (.seq (.reg r_pdu_shapeOf_16) (.cond (.tm 23) (.seq (.reg r_pdu_shapeOf_17) .ret) (.seq (.reg r_pdu_shapeOf_18) (.cond (.tm 26) (.seq (.reg r_pdu_shapeOf_19) .ret) (.seq (.reg r_pdu_shapeOf_20) (.cond (.tm 29) (.seq (.reg r_pdu_shapeOf_21) .ret) (.seq (.reg r_pdu_shapeOf_22) (.cond (.tm 32) (.seq (.reg r_pdu_shapeOf_23) .ret) (.seq (.seq (.reg r_pdu_shapeOf_24) (.cond (.tm 35) .skip (.reg r_pdu_shapeOf_25))) (.cond (.tm 35) (.seq (.reg r_pdu_shapeOf_26) .ret) .skip)))))))))))))))))))))) (.seq (.reg r_pdu_shapeOf_27) .ret)))
abbrev c_pdu_shapeOf : CF := ⟨40, [(.cell 2 true 8)], b_pdu_shapeOf⟩
/-! polliwog/pdu.low -/
abbrev r_pdu_low_0 : List COp := [o 2 (.mv (.k (.b false)))]
abbrev r_pdu_low_1 : List COp := [o 3 (.mv (.tm 0)), o 4 (.mv (.tm 0)), oC 5 n_seq_Num_Low [(.tm 4)], o 6 (.bin .eql (.tm 3) (.tm 5)), o 2 (.mv (.tm 6))]
def b_pdu_low : C := (.seq (.reg r_pdu_low_0) (.seq (.reg r_pdu_low_1) .ret))
abbrev c_pdu_low : CF := ⟨7, [(.tm 2)], b_pdu_low⟩
/-! slices.ContainsFunc[[]polliwog/seq.Num,polliwog/seq.Num] -/
abbrev r_slices_ContainsFunc_Lseq_Num_seq_Num_0 : List COp := [o 4 (.mv (.k (.b false)))]
abbrev r_slices_ContainsFunc_Lseq_Num_seq_Num_1 : List COp := [o 5 (.mv (.tm 0)), o 6 (.mv (.tm 1)), oC 7 n_slices_IndexFunc_Lseq_Num_seq_Num [(.tm 5), (.tm 6)], o 8 (.bin .geq (.tm 7) (.k (.i .i64 0))), o 4 (.mv (.tm 8))]
def b_slices_ContainsFunc_Lseq_Num_seq_Num : C := (.seq (.reg r_slices_ContainsFunc_Lseq_Num_seq_Num_0) (.seq (.reg r_slices_ContainsFunc_Lseq_Num_seq_Num_1) .ret))
abbrev c_slices_ContainsFunc_Lseq_Num_seq_Num : CF := ⟨9, [(.tm 4)], b_slices_ContainsFunc_Lseq_Num_seq_Num⟩
/-! (polliwog/pdu.PDU).Check$1 -/
abbrev r_pdu_PDU_Check_1_0 : List COp := [o 2 (.mv (.k (.b false)))]
abbrev r_pdu_PDU_Check_1_1 : List COp := [o 3 (.mv (.tm 0)), oC 4 n_pdu_low [(.tm 3)], o 5 (.un .not (.tm 4)), o 2 (.mv (.tm 5))]
def b_pdu_PDU_Check_1 : C := (.seq (.reg r_pdu_PDU_Check_1_0) (.seq (.reg r_pdu_PDU_Check_1_1) .ret))
abbrev c_pdu_PDU_Check_1 : CF := ⟨6, [(.tm 2)], b_pdu_PDU_Check_1⟩
/-! (*strings.Builder).WriteString -/
abbrev r_strings_Builder_WriteString_0 : List COp := [o 4 (.mv (.k (.i .i64 0))), o 5 (.mv (.k .ni))]
abbrev r_strings_Builder_WriteString_1 : List COp := [o 6 (.mv (.tm 0)), oC 7 n_strings_Builder_copyCheck [(.tm 6)]]
abbrev r_strings_Builder_WriteString_2 : List COp := [o 8 (.mv (.tm 0)), o 9 (.mv (.tm 0)), o 10 (.nilck (.tm 9)), o 11 (.faddr 1 (.tm 10)), o 12 (.load false 1 (.tm 11)), o 13 (.mv (.tm 1)), o 14 (.appendT 1000005 true 1 1 (.tm 12) (.tm 13)), o 15 (.nilck (.tm 8)), o 16 (.faddr 1 (.tm 15)), oN (.store 1 (.tm 16) (.tm 14))]
abbrev r_strings_Builder_WriteString_3 : List COp := [o 17 (.mv (.tm 1)), o 18 (.len .str (.tm 17)), o 4 (.mv (.tm 18)), o 5 (.mv (.k .ni))]
def b_strings_Builder_WriteString : C := (.seq (.reg r_strings_Builder_WriteString_0) (.seq (.reg r_strings_Builder_WriteString_1) (.seq (.reg r_strings_Builder_WriteString_2) (.seq (.reg r_strings_Builder_WriteString_3) .ret))))
abbrev c_strings_Builder_WriteString : CF := ⟨19, [(.tm 4), (.tm 5)], b_strings_Builder_WriteString⟩
/-! (polliwog/pdu.PDU).words -/
abbrev r_pdu_PDU_words_0 : List COp := [o 1 (.box (.tm 0)), o 2 (.mv (.k (.sl none 0 (some 0) 0)))]
abbrev r_pdu_PDU_words_1 : List COp := [o 7 (.faddr 0 (.tm 1)), o 8 (.load false 1 (.tm 7)), oC 9 n_pdu_shapeOf [(.tm 8)], o 3 (.alloc [(.i .i64 0), (.b false), (.b false), (.i .i64 0), (.b false), (.b false), (.b false), (.b false)] 221), oN (.store 8 (.tm 3) (.tm 9))]
abbrev r_pdu_PDU_words_2 : List COp := [o 4 (.mv (.k (.sl none 0 (some 0) 0)))]
abbrev r_pdu_PDU_words_3 : List COp := [o 10 (.faddr 1 (.tm 3)), o 11 (.load false 1 (.tm 10))]
abbrev r_pdu_PDU_words_4 : List COp := [o 12 (.mv (.tm 4)), o 13 (.faddr 1 (.tm 1)), o 14 (.load false 1 (.tm 13)), o 15 (.convI .u32 (.tm 14)), o 16 (.bslice 1 [(.i .u32 0)] 1 [(0, (.tm 15))]), o 17 (.append false 1 4 (.tm 12) (.tm 16)), o 4 (.mv (.tm 17))]
abbrev r_pdu_PDU_words_5 : List COp := [o 18 (.faddr 5 (.tm 1)), o 19 (.load false 1 (.tm 18)), o 20 (.len .slice (.tm 19)), o 21 (.mv (.k (.i .i64 0)))]
abbrev r_pdu_PDU_words_6 : List COp := [o 22 (.bin .lss (.tm 21) (.tm 20))]
abbrev r_pdu_PDU_words_7 : List COp := [o 23 (.iaddrL 1 (.tm 19) (.tm 21)), o 24 (.load false 1 (.tm 23)), o 6 (.mv (.tm 24))]
abbrev r_pdu_PDU_words_8 : List COp := [o 25 (.mv (.tm 4)), o 26 (.mv (.tm 6)), o 27 (.bslice 1 [(.i .u32 0)] 1 [(0, (.tm 26))]), o 28 (.append false 1 4 (.tm 25) (.tm 27)), o 4 (.mv (.tm 28))]
abbrev r_pdu_PDU_words_9 : List COp := [o 29 (.bin .add (.tm 21) (.k (.i .i64 1))), o 21 (.mv (.tm 29))]
def l_pdu_PDU_words_0 : C := (.seq (.reg r_pdu_PDU_words_6) (.seq (.cond (.tm 22) .skip (.exit 0)) (.seq (.blk 1 (.seq (.reg r_pdu_PDU_words_7) (.reg r_pdu_PDU_words_8))) (.reg r_pdu_PDU_words_9))))
abbrev r_pdu_PDU_words_10 : List COp := [o 30 (.faddr 4 (.tm 3)), o 31 (.load false 1 (.tm 30))]
abbrev r_pdu_PDU_words_11 : List COp := [o 32 (.mv (.tm 4)), o 33 (.faddr 3 (.tm 1)), o 34 (.load false 1 (.tm 33)), o 35 (.bslice 1 [(.i .u32 0)] 1 [(0, (.tm 34))]), o 36 (.append false 1 4 (.tm 32) (.tm 35)), o 4 (.mv (.tm 36))]
abbrev r_pdu_PDU_words_12 : List COp := [o 37 (.faddr 5 (.tm 3)), o 38 (.load false 1 (.tm 37))]
abbrev r_pdu_PDU_words_13 : List COp := [o 39 (.mv (.tm 4)), o 40 (.faddr 4 (.tm 1)), o 41 (.load false 1 (.tm 40)), o 42 (.bslice 1 [(.i .u32 0)] 1 [(0, (.tm 41))]), o 43 (.append false 1 4 (.tm 39) (.tm 42)), o 4 (.mv (.tm 43))]
abbrev r_pdu_PDU_words_14 : List COp := [o 44 (.mv (.tm 4)), o 2 (.mv (.tm 44))]
def b_pdu_PDU_words : C := (.seq (.reg r_pdu_PDU_words_0) (.seq (.reg r_pdu_PDU_words_1) (.seq (.reg r_pdu_PDU_words_2) (.seq (.seq (.reg r_pdu_PDU_words_3) (.cond (.tm 11) (.reg r_pdu_PDU_words_4) .skip)) (.seq (.seq (.reg r_pdu_PDU_words_5) (.blk 0 (.loop l_pdu_PDU_words_0))) (.seq (.seq (.reg r_pdu_PDU_words_10) (.cond (.tm 31) (.reg r_pdu_PDU_words_11) .skip)) (.seq (.seq (.reg r_pdu_PDU_words_12) (.cond (.tm 38) (.reg r_pdu_PDU_words_13) .skip)) (.seq (.reg r_pdu_PDU_words_14) .ret))))))))
abbrev c_pdu_PDU_words : CF := ⟨45, [(.tm 2)], b_pdu_PDU_words⟩
/-! polliwog/pdu.four -/
abbrev r_pdu_four_0 : List COp := [o 2 (.mv (.k (.s [])))]
abbrev r_pdu_four_1 : List COp := [o 3 (.mv (.tm 0)), o 4 (.bin .shr (.tm 3) (.k (.i .u64 24))), o 5 (.convI .u8 (.tm 4)), o 6 (.mv (.tm 0)), o 7 (.bin .shr (.tm 6) (.k (.i .u64 16))), o 8 (.convI .u8 (.tm 7)), o 9 (.mv (.tm 0)), o 10 (.bin .shr (.tm 9) (.k (.i .u64 8))), o 11 (.convI .u8 (.tm 10)), o 12 (.mv (.tm 0)), o 13 (.convI .u8 (.tm 12)), o 14 (.bslice 1 [(.i .u8 0)] 4 [(0, (.tm 5)), (1, (.tm 8)), (2, (.tm 11)), (3, (.tm 13))]), o 15 (.convBS (.tm 14)), o 2 (.mv (.tm 15))]
def b_pdu_four : C := (.seq (.reg r_pdu_four_0) (.seq (.reg r_pdu_four_1) .ret))
abbrev c_pdu_four : CF := ⟨16, [(.tm 2)], b_pdu_four⟩
/-! polliwog/pdu.bit -/
abbrev r_pdu_bit_0 : List COp := [o 2 (.mv (.k (.i .u32 0)))]
abbrev r_pdu_bit_1 : List COp := [o 3 (.mv (.tm 0))]
abbrev r_pdu_bit_2 : List COp := [o 2 (.mv (.k (.i .u32 1)))]
abbrev r_pdu_bit_3 : List COp := [o 2 (.mv (.k (.i .u32 0)))]
def b_pdu_bit : C := (.seq (.reg r_pdu_bit_0) (.seq (.seq (.reg r_pdu_bit_1) (.cond (.tm 3) (.seq (.reg r_pdu_bit_2) .ret) .skip)) (.seq (.reg r_pdu_bit_3) .ret)))
abbrev c_pdu_bit : CF := ⟨4, [(.tm 2)], b_pdu_bit⟩
/-! polliwog/frame.Cells -/
abbrev r_frame_Cells_0 : List COp := [o 2 (.mv (.k (.i .i64 0)))]
abbrev r_frame_Cells_1 : List COp := [o 3 (.mv (.tm 0)), o 4 (.mxmn true [(.tm 3), (.k (.i .i64 0))]), o 0 (.mv (.tm 4))]
abbrev r_frame_Cells_2 : List COp := [o 5 (.mv (.tm 0)), o 6 (.bin .quo (.tm 5) (.k (.i .i64 48))), o 7 (.mv (.tm 0)), o 8 (.bin .rem (.tm 7) (.k (.i .i64 48))), o 9 (.bin .add (.tm 8) (.k (.i .i64 8))), o 10 (.bin .sub (.tm 9) (.k (.i .i64 1))), o 11 (.bin .quo (.tm 10) (.k (.i .i64 48))), o 12 (.bin .add (.tm 6) (.tm 11)), o 13 (.bin .add (.tm 12) (.k (.i .i64 1))), o 2 (.mv (.tm 13))]
def b_frame_Cells : C := (.seq (.reg r_frame_Cells_0) (.seq (.reg r_frame_Cells_1) (.seq (.reg r_frame_Cells_2) .ret)))
abbrev c_frame_Cells : CF := ⟨14, [(.tm 2)], b_frame_Cells⟩
/-! (*polliwog/crc.Table).Seal -/
abbrev r_crc_Table_Seal_0 : List COp := [o 4 (.mv (.k (.s [])))]
abbrev r_crc_Table_Seal_1 : List COp := [o 5 (.mv (.tm 1)), o 6 (.mv (.tm 0)), o 7 (.mv (.tm 1)), o 8 (.bslice 1 [(.s [])] 1 [(0, (.tm 7))]), oC 9 n_crc_Table_Sum [(.tm 6), (.tm 8)], oC 10 n_crc_four [(.tm 9)], o 11 (.bin .add (.tm 5) (.tm 10)), o 4 (.mv (.tm 11))]
def b_crc_Table_Seal : C := (.seq (.reg r_crc_Table_Seal_0) (.seq (.reg r_crc_Table_Seal_1) .ret))
abbrev c_crc_Table_Seal : CF := ⟨12, [(.tm 4)], b_crc_Table_Seal⟩
/-! (*polliwog/ring.Ring[string]).grow -/
abbrev r_ring_Ring_string_grow_0 : List COp := [o 4 (.mv (.tm 0)), o 5 (.nilck (.tm 4)), o 6 (.faddr 3 (.tm 5)), o 7 (.load false 1 (.tm 6)), o 8 (.mv (.tm 0)), o 9 (.nilck (.tm 8)), o 10 (.faddr 0 (.tm 9)), o 11 (.load false 1 (.tm 10)), o 12 (.len .slice (.tm 11)), o 13 (.bin .mul (.k (.i .i64 2)) (.tm 12)), o 14 (.mxmn true [(.k (.i .i64 4)), (.tm 13)]), o 15 (.mxmn false [(.tm 7), (.tm 14)]), o 2 (.mv (.tm 15))]
abbrev r_ring_Ring_string_grow_1 : List COp := [o 16 (.mv (.tm 2)), o 17 (.mkslice 1 16 [(.s [])] (.tm 16) (.tm 16)), o 3 (.mv (.tm 17))]
abbrev r_ring_Ring_string_grow_2 : List COp := [o 18 (.mv (.tm 3)), o 19 (.mv (.tm 0)), oC 20 n_ring_Ring_string_All [(.tm 19)], o 21 (.copyL 1 (.tm 18) (.tm 20))]
abbrev r_ring_Ring_string_grow_3 : List COp := [o 22 (.mv (.tm 0)), o 23 (.mv (.tm 0)), o 24 (.mv (.tm 3)), o 25 (.nilck (.tm 22)), o 26 (.faddr 0 (.tm 25)), oN (.store 1 (.tm 26) (.tm 24)), o 27 (.nilck (.tm 23)), o 28 (.faddr 1 (.tm 27)), oN (.store 1 (.tm 28) (.k (.i .i64 0)))]
def b_ring_Ring_string_grow : C := (.seq (.draw r_ring_Ring_string_grow_0 [] []) (.seq (.reg r_ring_Ring_string_grow_1) (.seq (.reg r_ring_Ring_string_grow_2) (.reg r_ring_Ring_string_grow_3))))
abbrev c_ring_Ring_string_grow : CF := ⟨29, [], b_ring_Ring_string_grow⟩
/-! (*polliwog/ring.Ring[string]).place -/
abbrev r_ring_Ring_string_place_0 : List COp := [o 4 (.mv (.k (.i .i64 0)))]
abbrev r_ring_Ring_string_place_1 : List COp := [o 5 (.mv (.tm 0)), o 6 (.nilck (.tm 5)), o 7 (.faddr 1 (.tm 6)), o 8 (.load false 1 (.tm 7)), o 9 (.mv (.tm 1)), o 10 (.bin .add (.tm 8) (.tm 9)), o 11 (.mv (.tm 0)), o 12 (.nilck (.tm 11)), o 13 (.faddr 0 (.tm 12)), o 14 (.load false 1 (.tm 13)), o 15 (.len .slice (.tm 14)), o 16 (.bin .rem (.tm 10) (.tm 15)), o 4 (.mv (.tm 16))]
def b_ring_Ring_string_place : C := (.seq (.reg r_ring_Ring_string_place_0) (.seq (.draw r_ring_Ring_string_place_1 [] []) .ret))
abbrev c_ring_Ring_string_place : CF := ⟨17, [(.tm 4)], b_ring_Ring_string_place⟩
/-! (*polliwog/timer.Bank).Left -/
abbrev r_timer_Bank_Left_0 : List COp := [o 4 (.mv (.k (.i .i64 0)))]
abbrev r_timer_Bank_Left_1 : List COp := [o 5 (.mv (.tm 1)), oC 6 n_timer_is [(.tm 5)], o 7 (.un .not (.tm 6))]
abbrev r_timer_Bank_Left_2 : List COp := [o 4 (.mv (.k (.i .i64 0)))]
abbrev r_timer_Bank_Left_3 : List COp := [o 8 (.mv (.tm 0)), o 9 (.mv (.tm 1)), o 10 (.nilck (.tm 8)), o 11 (.faddr 0 (.tm 10)), o 12 (.iaddrA 5 1 (.tm 11) (.tm 9)), o 13 (.load false 1 (.tm 12)), o 4 (.mv (.tm 13))]
def b_timer_Bank_Left : C := (.seq (.reg r_timer_Bank_Left_0) (.seq (.seq (.reg r_timer_Bank_Left_1) (.cond (.tm 7) (.seq (.reg r_timer_Bank_Left_2) .ret) .skip)) (.seq (.reg r_timer_Bank_Left_3) .ret)))
abbrev c_timer_Bank_Left : CF := ⟨14, [(.tm 4)], b_timer_Bank_Left⟩
/-! (*polliwog/timer.Bank).Stop -/
abbrev r_timer_Bank_Stop_0 : List COp := [o 4 (.mv (.tm 1)), oC 5 n_timer_is [(.tm 4)]]
abbrev r_timer_Bank_Stop_1 : List COp := [o 6 (.mv (.tm 0)), o 7 (.mv (.tm 1)), o 8 (.nilck (.tm 6)), o 9 (.faddr 0 (.tm 8)), o 10 (.iaddrA 5 1 (.tm 9) (.tm 7)), oN (.store 1 (.tm 10) (.k (.i .i64 0)))]
def b_timer_Bank_Stop : C := (.seq (.reg r_timer_Bank_Stop_0) (.cond (.tm 5) (.reg r_timer_Bank_Stop_1) .skip))
abbrev c_timer_Bank_Stop : CF := ⟨11, [], b_timer_Bank_Stop⟩
/-! polliwog/timer.is -/
abbrev r_timer_is_0 : List COp := [o 2 (.mv (.k (.b false)))]
abbrev r_timer_is_1 : List COp := [o 3 (.mv (.tm 0)), o 4 (.bin .geq (.tm 3) (.k (.i .i64 0))), o 5 (.mv (.tm 4)), ⟨(some 6), (.op (.mv (.tm 0))), (some (5, true))⟩, ⟨(some 7), (.op (.bin .lss (.tm 6) (.k (.i .i64 5)))), (some (5, true))⟩, o 8 (.pick (.tm 5) (.tm 7) (.k (.b false))), o 2 (.mv (.tm 8))]
def b_timer_is : C := (.seq (.reg r_timer_is_0) (.seq (.reg r_timer_is_1) .ret))
abbrev c_timer_is : CF := ⟨9, [(.tm 2)], b_timer_is⟩
/-! (*polliwog/ring.Ring[polliwog/pdu.PDU]).All -/
abbrev r_ring_Ring_pdu_PDU_All_0 : List COp := [o 2 (.mv (.k (.sl none 0 (some 0) 0)))]
abbrev r_ring_Ring_pdu_PDU_All_1 : List COp := [o 3 (.mv (.k (.sl none 0 (some 0) 0)))]
abbrev r_ring_Ring_pdu_PDU_All_2 : List COp := [o 5 (.mv (.tm 0)), o 6 (.nilck (.tm 5)), o 7 (.faddr 2 (.tm 6)), o 8 (.load false 1 (.tm 7)), o 9 (.mv (.k (.i .i64 0)))]
abbrev r_ring_Ring_pdu_PDU_All_3 : List COp := [o 10 (.bin .lss (.tm 9) (.tm 8))]
abbrev r_ring_Ring_pdu_PDU_All_4 : List COp := [o 11 (.mv (.tm 9)), o 4 (.mv (.tm 11))]
abbrev r_ring_Ring_pdu_PDU_All_5 : List COp := [o 12 (.mv (.tm 3)), o 13 (.mv (.tm 0)), o 14 (.nilck (.tm 13)), o 15 (.faddr 0 (.tm 14)), o 16 (.load false 1 (.tm 15)), o 17 (.mv (.tm 0)), o 18 (.mv (.tm 4)), oC 19 n_ring_Ring_pdu_PDU_place [(.tm 17), (.tm 18)], o 20 (.iaddrL 8 (.tm 16) (.tm 19)), o 21 (.load true 8 (.tm 20)), o 22 (.bslice 8 [(.i .i64 0), (.i .i64 0), (.i .u32 0), (.i .u32 0), (.i .u32 0), (.sl none 0 (some 0) 0), (.b false), (.s [])] 1 [(0, (.tm 21))]), o 23 (.append false 8 80 (.tm 12) (.tm 22)), o 3 (.mv (.tm 23))]
abbrev r_ring_Ring_pdu_PDU_All_6 : List COp := [o 24 (.bin .add (.tm 9) (.k (.i .i64 1))), o 9 (.mv (.tm 24))]
def l_ring_Ring_pdu_PDU_All_0 : C := (.seq (.reg r_ring_Ring_pdu_PDU_All_3) (.seq (.cond (.tm 10) .skip (.exit 0)) (.seq (.blk 1 (.seq (.reg r_ring_Ring_pdu_PDU_All_4) (.draw r_ring_Ring_pdu_PDU_All_5 [(4, [8])] []))) (.reg r_ring_Ring_pdu_PDU_All_6))))
abbrev r_ring_Ring_pdu_PDU_All_7 : List COp := [o 25 (.mv (.tm 3)), o 2 (.mv (.tm 25))]
def b_ring_Ring_pdu_PDU_All : C := (.seq (.reg r_ring_Ring_pdu_PDU_All_0) (.seq (.reg r_ring_Ring_pdu_PDU_All_1) (.seq (.seq (.reg r_ring_Ring_pdu_PDU_All_2) (.blk 0 (.loop l_ring_Ring_pdu_PDU_All_0))) (.seq (.reg r_ring_Ring_pdu_PDU_All_7) .ret))))
abbrev c_ring_Ring_pdu_PDU_All : CF := ⟨26, [(.tm 2)], b_ring_Ring_pdu_PDU_All⟩
/-! (*polliwog/conn.act).begin -/
abbrev r_conn_act_begin_0 : List COp := [o 6 (.mv (.tm 0)), o 7 (.mv (.tm 1)), oC 8 n_conn_act_to [(.tm 6), (.tm 7)]]
abbrev r_conn_act_begin_1 : List COp := [o 9 (.mv (.tm 0)), o 10 (.nilck (.tm 9)), o 11 (.faddr 0 (.tm 10)), o 12 (.load false 1 (.tm 11)), o 13 (.mv (.tm 0)), o 14 (.nilck (.tm 13)), o 15 (.faddr 0 (.tm 14)), o 16 (.load false 1 (.tm 15)), o 17 (.mv (.tm 0)), o 18 (.nilck (.tm 17)), o 19 (.faddr 0 (.tm 18)), o 20 (.load false 1 (.tm 19)), o 21 (.mv (.tm 0)), o 22 (.nilck (.tm 21)), o 23 (.faddr 0 (.tm 22)), o 24 (.load false 1 (.tm 23)), o 25 (.nilck (.tm 24)), o 26 (.faddr 2 (.tm 25)), o 27 (.faddr 1 (.tm 26)), o 28 (.load false 1 (.tm 27)), o 29 (.bin .add (.tm 28) (.k (.i .i64 1))), o 30 (.bin .rem (.tm 29) (.k (.i .i64 256))), o 31 (.mv (.tm 2)), o 32 (.nilck (.tm 12)), o 33 (.faddr 2 (.tm 32)), o 34 (.faddr 1 (.tm 33)), oN (.store 1 (.tm 34) (.tm 30)), o 35 (.nilck (.tm 16)), o 36 (.faddr 2 (.tm 35)), o 37 (.faddr 3 (.tm 36)), oN (.store 1 (.tm 37) (.k (.i .i64 1))), o 38 (.nilck (.tm 20)), o 39 (.faddr 7 (.tm 38)), oN (.store 1 (.tm 39) (.tm 31))]
abbrev r_conn_act_begin_2 : List COp := [o 40 (.mv (.tm 0)), oC 41 n_conn_act_again [(.tm 40)]]
def b_conn_act_begin : C := (.seq (.reg r_conn_act_begin_0) (.seq (.draw r_conn_act_begin_1 [] []) (.reg r_conn_act_begin_2)))
abbrev c_conn_act_begin : CF := ⟨42, [], b_conn_act_begin⟩
/-! (*polliwog/conn.act).out -/
abbrev r_conn_act_out_0 : List COp := [o 3 (.box (.tm 1))]
abbrev r_conn_act_out_1 : List COp := [o 4 (.faddr 0 (.tm 3)), o 5 (.load false 1 (.tm 4))]
abbrev r_conn_act_out_2 : List COp := [o 7 (.bin .eql (.tm 5) (.k (.i .i64 1))), o 6 (.mv (.tm 7))]
abbrev r_conn_act_out_3 : List COp := [o 8 (.bin .eql (.tm 5) (.k (.i .i64 2))), o 6 (.mv (.tm 8))]
abbrev r_conn_act_out_4 : List COp := [o 9 (.bin .eql (.tm 5) (.k (.i .i64 5))), o 6 (.mv (.tm 9))]
abbrev r_conn_act_out_5 : List COp := [o 10 (.bin .eql (.tm 5) (.k (.i .i64 6))), o 6 (.mv (.tm 10))]
abbrev r_conn_act_out_6 : List COp := [o 11 (.bin .eql (.tm 5) (.k (.i .i64 9))), o 6 (.mv (.tm 11))]
abbrev r_conn_act_out_7 : List COp := [o 12 (.bin .eql (.tm 5) (.k (.i .i64 15))), o 6 (.mv (.tm 12))]
abbrev r_conn_act_out_8 : List COp := [o 13 (.mv (.tm 0)), o 14 (.nilck (.tm 13)), o 15 (.faddr 0 (.tm 14)), o 16 (.load false 1 (.tm 15)), o 17 (.nilck (.tm 16)), o 18 (.faddr 0 (.tm 17)), o 19 (.faddr 1 (.tm 18)), o 20 (.load false 1 (.tm 19)), o 21 (.faddr 2 (.tm 3)), oN (.store 1 (.tm 21) (.tm 20))]
abbrev r_conn_act_out_9 : List COp := [o 22 (.mv (.tm 0)), o 23 (.mv (.tm 0)), o 24 (.nilck (.tm 23)), o 25 (.faddr 1 (.tm 24)), o 26 (.faddr 1 (.tm 25)), o 27 (.load false 1 (.tm 26)), o 28 (.load true 8 (.tm 3)), o 29 (.bslice 8 [(.i .i64 0), (.i .i64 0), (.i .u32 0), (.i .u32 0), (.i .u32 0), (.sl none 0 (some 0) 0), (.b false), (.s [])] 1 [(0, (.tm 28))]), o 30 (.append false 8 80 (.tm 27) (.tm 29)), o 31 (.nilck (.tm 22)), o 32 (.faddr 1 (.tm 31)), o 33 (.faddr 1 (.tm 32)), oN (.store 1 (.tm 33) (.tm 30))]
def b_conn_act_out : C := (.seq (.reg r_conn_act_out_0) (.seq (.seq (.reg r_conn_act_out_1) (.blk 0 (.seq (.seq (.reg r_conn_act_out_2) (.cond (.tm 6) .skip (.seq (.reg r_conn_act_out_3) (.cond (.tm 6) .skip (.seq (.reg r_conn_act_out_4) (.cond (.tm 6) .skip (.seq (.reg r_conn_act_out_5) (.cond (.tm 6) .skip (.seq (.reg r_conn_act_out_6) (.cond (.tm 6) .skip (.reg r_conn_act_out_7))))))))))) (.cond (.tm 6) (.reg r_conn_act_out_8) .skip)))) (.draw r_conn_act_out_9 [] [])))
abbrev c_conn_act_out : CF := ⟨34, [], b_conn_act_out⟩
/-! (*polliwog/conn.act).ready -/
abbrev r_conn_act_ready_0 : List COp := [o 2 (.mv (.tm 0)), oC 3 n_conn_act_stop [(.tm 2), (.k (.i .i64 10))]]
abbrev r_conn_act_ready_1 : List COp := [o 4 (.mv (.tm 0)), o 5 (.mv (.tm 0)), o 6 (.mv (.tm 0)), o 7 (.nilck (.tm 6)), o 8 (.faddr 0 (.tm 7)), o 9 (.load false 1 (.tm 8)), o 10 (.nilck (.tm 9)), o 11 (.faddr 2 (.tm 10)), o 12 (.faddr 4 (.tm 11)), o 13 (.load false 1 (.tm 12)), o 14 (.nilck (.tm 4)), o 15 (.faddr 1 (.tm 14)), o 16 (.faddr 2 (.tm 15)), oN (.store 1 (.tm 16) (.k (.b true))), o 17 (.nilck (.tm 5)), o 18 (.faddr 1 (.tm 17)), o 19 (.faddr 4 (.tm 18)), oN (.store 1 (.tm 19) (.tm 13))]
def b_conn_act_ready : C := (.seq (.reg r_conn_act_ready_0) (.reg r_conn_act_ready_1))
abbrev c_conn_act_ready : CF := ⟨20, [], b_conn_act_ready⟩
/-! (*polliwog/conn.act).to -/
abbrev r_conn_act_to_0 : List COp := [o 4 (.mv (.tm 0)), o 5 (.mv (.tm 0)), o 6 (.nilck (.tm 5)), o 7 (.faddr 1 (.tm 6)), o 8 (.faddr 3 (.tm 7)), o 9 (.load false 1 (.tm 8)), o 10 (.mv (.tm 9)), ⟨(some 11), (.op (.mv (.tm 0))), (some (10, false))⟩, ⟨(some 12), (.op (.nilck (.tm 11))), (some (10, false))⟩, ⟨(some 13), (.op (.faddr 0 (.tm 12))), (some (10, false))⟩, ⟨(some 14), (.op (.load false 1 (.tm 13))), (some (10, false))⟩, ⟨(some 15), (.op (.nilck (.tm 14))), (some (10, false))⟩, ⟨(some 16), (.op (.faddr 2 (.tm 15))), (some (10, false))⟩, ⟨(some 17), (.op (.faddr 0 (.tm 16))), (some (10, false))⟩, ⟨(some 18), (.op (.load false 1 (.tm 17))), (some (10, false))⟩, ⟨(some 19), (.op (.bin .eql (.tm 18) (.k (.i .i64 10)))), (some (10, false))⟩, o 20 (.pick (.tm 10) (.k (.b true)) (.tm 19)), o 21 (.nilck (.tm 4)), o 22 (.faddr 1 (.tm 21)), o 23 (.faddr 3 (.tm 22)), oN (.store 1 (.tm 23) (.tm 20))]
abbrev r_conn_act_to_1 : List COp := [o 24 (.mv (.tm 0)), o 25 (.nilck (.tm 24)), o 26 (.faddr 0 (.tm 25)), o 27 (.load false 1 (.tm 26)), o 28 (.mv (.tm 1)), o 29 (.nilck (.tm 27)), o 30 (.faddr 2 (.tm 29)), o 31 (.faddr 0 (.tm 30)), oN (.store 1 (.tm 31) (.tm 28))]
def b_conn_act_to : C := (.seq (.reg r_conn_act_to_0) (.reg r_conn_act_to_1))
abbrev c_conn_act_to : CF := ⟨32, [], b_conn_act_to⟩
/-! (*polliwog/conn.act).leave -/
abbrev r_conn_act_leave_0 : List COp := [o 4 (.mv (.tm 0)), oC 5 n_conn_act_to [(.tm 4), (.k (.i .i64 4))]]
abbrev r_conn_act_leave_1 : List COp := [o 6 (.mv (.tm 0)), o 7 (.nilck (.tm 6)), o 8 (.faddr 0 (.tm 7)), o 9 (.load false 1 (.tm 8)), o 10 (.mv (.tm 0)), o 11 (.nilck (.tm 10)), o 12 (.faddr 0 (.tm 11)), o 13 (.load false 1 (.tm 12)), o 14 (.mv (.tm 1)), o 15 (.nilck (.tm 9)), o 16 (.faddr 2 (.tm 15)), o 17 (.faddr 3 (.tm 16)), oN (.store 1 (.tm 17) (.k (.i .i64 1))), o 18 (.nilck (.tm 13)), o 19 (.faddr 7 (.tm 18)), oN (.store 1 (.tm 19) (.tm 14))]
abbrev r_conn_act_leave_2 : List COp := [o 20 (.mv (.tm 0)), oC 21 n_conn_act_again [(.tm 20)]]
def b_conn_act_leave : C := (.seq (.reg r_conn_act_leave_0) (.seq (.draw r_conn_act_leave_1 [] []) (.reg r_conn_act_leave_2)))
abbrev c_conn_act_leave : CF := ⟨22, [], b_conn_act_leave⟩
/-! slices.IndexFunc[[]polliwog/pdu.PDU,polliwog/pdu.PDU] -/
abbrev r_slices_IndexFunc_Lpdu_PDU_pdu_PDU_0 : List COp := [o 4 (.mv (.k (.i .i64 0)))]
abbrev r_slices_IndexFunc_Lpdu_PDU_pdu_PDU_1 : List COp := [o 6 (.mv (.tm 0)), o 7 (.len .slice (.tm 6)), o 8 (.mv (.k (.i .i64 0)))]
abbrev r_slices_IndexFunc_Lpdu_PDU_pdu_PDU_2 : List COp := [o 9 (.bin .lss (.tm 8) (.tm 7))]
abbrev r_slices_IndexFunc_Lpdu_PDU_pdu_PDU_3 : List COp := [o 10 (.mv (.tm 8)), o 5 (.mv (.tm 10))]
abbrev r_slices_IndexFunc_Lpdu_PDU_pdu_PDU_4 : List COp := [o 11 (.mv (.tm 1)), o 12 (.mv (.tm 0)), o 13 (.mv (.tm 5)), o 14 (.iaddrL 8 (.tm 12) (.tm 13)), o 15 (.load true 8 (.tm 14)), ⟨(some 16), (.callv (.tm 11) [(.tm 15)]), none⟩]
abbrev r_slices_IndexFunc_Lpdu_PDU_pdu_PDU_5 : List COp := [o 17 (.mv (.tm 5)), o 4 (.mv (.tm 17))]
abbrev r_slices_IndexFunc_Lpdu_PDU_pdu_PDU_6 : List COp := [o 18 (.bin .add (.tm 8) (.k (.i .i64 1))), o 8 (.mv (.tm 18))]
def l_slices_IndexFunc_Lpdu_PDU_pdu_PDU_0 : C := (.seq (.reg r_slices_IndexFunc_Lpdu_PDU_pdu_PDU_2) (.seq (.cond (.tm 9) .skip (.exit 0)) (.seq (.blk 1 (.seq (.reg r_slices_IndexFunc_Lpdu_PDU_pdu_PDU_3) (.seq (.reg r_slices_IndexFunc_Lpdu_PDU_pdu_PDU_4) (.cond (.tm 16) (.seq (.reg r_slices_IndexFunc_Lpdu_PDU_pdu_PDU_5) .ret) .skip)))) (.reg r_slices_IndexFunc_Lpdu_PDU_pdu_PDU_6))))
abbrev r_slices_IndexFunc_Lpdu_PDU_pdu_PDU_7 : List COp := [o 4 (.mv (.k (.i .i64 (-1))))]
def b_slices_IndexFunc_Lpdu_PDU_pdu_PDU : C := (.seq (.reg r_slices_IndexFunc_Lpdu_PDU_pdu_PDU_0) (.seq (.seq (.reg r_slices_IndexFunc_Lpdu_PDU_pdu_PDU_1) (.blk 0 (.loop l_slices_IndexFunc_Lpdu_PDU_pdu_PDU_0))) (.seq (.reg r_slices_IndexFunc_Lpdu_PDU_pdu_PDU_7) .ret)))
abbrev c_slices_IndexFunc_Lpdu_PDU_pdu_PDU : CF := ⟨19, [(.tm 4)], b_slices_IndexFunc_Lpdu_PDU_pdu_PDU⟩
/-! (*polliwog/ring.Ring[string]).All -/
abbrev r_ring_Ring_string_All_0 : List COp := [o 2 (.mv (.k (.sl none 0 (some 0) 0)))]
abbrev r_ring_Ring_string_All_1 : List COp := [o 3 (.mv (.k (.sl none 0 (some 0) 0)))]
abbrev r_ring_Ring_string_All_2 : List COp := [o 5 (.mv (.tm 0)), o 6 (.nilck (.tm 5)), o 7 (.faddr 2 (.tm 6)), o 8 (.load false 1 (.tm 7)), o 9 (.mv (.k (.i .i64 0)))]
abbrev r_ring_Ring_string_All_3 : List COp := [o 10 (.bin .lss (.tm 9) (.tm 8))]
abbrev r_ring_Ring_string_All_4 : List COp := [o 11 (.mv (.tm 9)), o 4 (.mv (.tm 11))]
abbrev r_ring_Ring_string_All_5 : List COp := [o 12 (.mv (.tm 3)), o 13 (.mv (.tm 0)), o 14 (.nilck (.tm 13)), o 15 (.faddr 0 (.tm 14)), o 16 (.load false 1 (.tm 15)), o 17 (.mv (.tm 0)), o 18 (.mv (.tm 4)), oC 19 n_ring_Ring_string_place [(.tm 17), (.tm 18)], o 20 (.iaddrL 1 (.tm 16) (.tm 19)), o 21 (.load false 1 (.tm 20)), o 22 (.bslice 1 [(.s [])] 1 [(0, (.tm 21))]), o 23 (.append false 1 16 (.tm 12) (.tm 22)), o 3 (.mv (.tm 23))]
abbrev r_ring_Ring_string_All_6 : List COp := [o 24 (.bin .add (.tm 9) (.k (.i .i64 1))), o 9 (.mv (.tm 24))]
def l_ring_Ring_string_All_0 : C := (.seq (.reg r_ring_Ring_string_All_3) (.seq (.cond (.tm 10) .skip (.exit 0)) (.seq (.blk 1 (.seq (.reg r_ring_Ring_string_All_4) (.draw r_ring_Ring_string_All_5 [(4, [8])] []))) (.reg r_ring_Ring_string_All_6))))
abbrev r_ring_Ring_string_All_7 : List COp := [o 25 (.mv (.tm 3)), o 2 (.mv (.tm 25))]
def b_ring_Ring_string_All : C := (.seq (.reg r_ring_Ring_string_All_0) (.seq (.reg r_ring_Ring_string_All_1) (.seq (.seq (.reg r_ring_Ring_string_All_2) (.blk 0 (.loop l_ring_Ring_string_All_0))) (.seq (.reg r_ring_Ring_string_All_7) .ret))))
abbrev c_ring_Ring_string_All : CF := ⟨26, [(.tm 2)], b_ring_Ring_string_All⟩
/-! polliwog/send.New$1 -/
abbrev r_send_New_1_0 : List COp := [o 2 (.mv (.k (.i .i64 0)))]
abbrev r_send_New_1_1 : List COp := [o 3 (.mv (.tm 0)), o 4 (.mxmn false [(.tm 3), (.k (.i .i64 256))]), o 5 (.mxmn true [(.k (.i .i64 1)), (.tm 4)]), o 2 (.mv (.tm 5))]
def b_send_New_1 : C := (.seq (.reg r_send_New_1_0) (.seq (.reg r_send_New_1_1) .ret))
abbrev c_send_New_1 : CF := ⟨6, [(.tm 2)], b_send_New_1⟩
/-! (polliwog/seq.Num).To -/
abbrev r_seq_Num_To_0 : List COp := [o 4 (.mv (.k (.i .i64 0)))]
abbrev r_seq_Num_To_1 : List COp := [o 5 (.mv (.tm 1)), o 6 (.mv (.tm 0)), o 7 (.bin .sub (.tm 5) (.tm 6)), o 8 (.bin .and (.tm 7) (.k (.i .u32 16777215))), o 9 (.convI .i64 (.tm 8)), o 4 (.mv (.tm 9))]
def b_seq_Num_To : C := (.seq (.reg r_seq_Num_To_0) (.seq (.reg r_seq_Num_To_1) .ret))
abbrev c_seq_Num_To : CF := ⟨10, [(.tm 4)], b_seq_Num_To⟩
/-! polliwog/seq.Max -/
abbrev r_seq_Max_0 : List COp := [o 6 (.mv (.k (.i .u32 0)))]
abbrev r_seq_Max_1 : List COp := [o 7 (.mv (.tm 0)), o 8 (.mv (.tm 1)), oC 9 n_seq_Num_To [(.tm 7), (.tm 8)], o 10 (.mv (.tm 0)), o 11 (.mv (.tm 2)), oC 12 n_seq_Num_To [(.tm 10), (.tm 11)], o 13 (.bin .geq (.tm 9) (.tm 12))]
abbrev r_seq_Max_2 : List COp := [o 14 (.mv (.tm 1)), oC 15 n_seq_Num_Low [(.tm 14)], o 6 (.mv (.tm 15))]
abbrev r_seq_Max_3 : List COp := [o 16 (.mv (.tm 2)), oC 17 n_seq_Num_Low [(.tm 16)], o 6 (.mv (.tm 17))]
def b_seq_Max : C := (.seq (.reg r_seq_Max_0) (.seq (.seq (.reg r_seq_Max_1) (.cond (.tm 13) (.seq (.reg r_seq_Max_2) .ret) .skip)) (.seq (.reg r_seq_Max_3) .ret)))
abbrev c_seq_Max : CF := ⟨18, [(.tm 6)], b_seq_Max⟩
/-! (polliwog/span.Set).Both -/
abbrev r_span_Set_Both_0 : List COp := [o 4 (.mv (.k (.sl none 0 (some 0) 0)))]
abbrev r_span_Set_Both_1 : List COp := [o 5 (.mv (.k (.sl none 0 (some 0) 0)))]
abbrev r_span_Set_Both_2 : List COp := [o 10 (.mv (.tm 0)), o 11 (.len .slice (.tm 10)), o 12 (.mv (.k (.i .i64 0)))]
abbrev r_span_Set_Both_3 : List COp := [o 13 (.bin .lss (.tm 12) (.tm 11))]
abbrev r_span_Set_Both_4 : List COp := [o 14 (.iaddrL 2 (.tm 10) (.tm 12)), o 15 (.load true 2 (.tm 14)), o 7 (.alloc [(.i .i64 0), (.i .i64 0)] 252), oN (.store 2 (.tm 7) (.tm 15))]
abbrev r_span_Set_Both_5 : List COp := [o 16 (.mv (.tm 1)), o 17 (.len .slice (.tm 16)), o 18 (.mv (.k (.i .i64 0)))]
abbrev r_span_Set_Both_6 : List COp := [o 19 (.bin .lss (.tm 18) (.tm 17))]
abbrev r_span_Set_Both_7 : List COp := [o 20 (.iaddrL 2 (.tm 16) (.tm 18)), o 21 (.load true 2 (.tm 20)), o 9 (.alloc [(.i .i64 0), (.i .i64 0)] 252), oN (.store 2 (.tm 9) (.tm 21))]
abbrev r_span_Set_Both_8 : List COp := [o 22 (.mv (.tm 5)), o 23 (.faddr 0 (.tm 7)), o 24 (.load false 1 (.tm 23)), o 25 (.faddr 0 (.tm 9)), o 26 (.load false 1 (.tm 25)), o 27 (.mxmn true [(.tm 24), (.tm 26)]), o 28 (.faddr 1 (.tm 7)), o 29 (.load false 1 (.tm 28)), o 30 (.faddr 1 (.tm 9)), o 31 (.load false 1 (.tm 30)), o 32 (.mxmn false [(.tm 29), (.tm 31)]), o 33 (.build [(.i .i64 0), (.i .i64 0)] [(0, 1, (.tm 27)), (1, 1, (.tm 32))]), o 34 (.bslice 2 [(.i .i64 0), (.i .i64 0)] 1 [(0, (.tm 33))]), o 35 (.append false 2 16 (.tm 22) (.tm 34)), o 5 (.mv (.tm 35))]
abbrev r_span_Set_Both_9 : List COp := [o 36 (.bin .add (.tm 18) (.k (.i .i64 1))), o 18 (.mv (.tm 36))]
def l_span_Set_Both_0 : C := (.seq (.reg r_span_Set_Both_6) (.seq (.cond (.tm 19) .skip (.exit 2)) (.seq (.blk 3 (.seq (.reg r_span_Set_Both_7) (.reg r_span_Set_Both_8))) (.reg r_span_Set_Both_9))))
abbrev r_span_Set_Both_10 : List COp := [o 37 (.bin .add (.tm 12) (.k (.i .i64 1))), o 12 (.mv (.tm 37))]
def l_span_Set_Both_1 : C := (.seq (.reg r_span_Set_Both_3) (.seq (.cond (.tm 13) .skip (.exit 0)) (.seq (.blk 1 (.seq (.reg r_span_Set_Both_4) (.seq (.reg r_span_Set_Both_5) (.blk 2 (.loop l_span_Set_Both_0))))) (.reg r_span_Set_Both_10))))
abbrev r_span_Set_Both_11 : List COp := [o 38 (.mv (.tm 5)), oC 39 n_span_Of [(.tm 38)], o 4 (.mv (.tm 39))]
def b_span_Set_Both : C := (.seq (.reg r_span_Set_Both_0) (.seq (.reg r_span_Set_Both_1) (.seq (.seq (.reg r_span_Set_Both_2) (.blk 0 (.loop l_span_Set_Both_1))) (.seq (.reg r_span_Set_Both_11) .ret))))
abbrev c_span_Set_Both : CF := ⟨40, [(.tm 4)], b_span_Set_Both⟩
/-! polliwog/span.Of -/
abbrev r_span_Of_0 : List COp := [o 2 (.mv (.k (.sl none 0 (some 0) 0)))]
abbrev r_span_Of_1 : List COp := [o 3 (.mv (.k (.sl none 0 (some 0) 0)))]
abbrev r_span_Of_2 : List COp := [o 10 (.mv (.tm 0)), o 11 (.len .slice (.tm 10)), o 12 (.mv (.k (.i .i64 0)))]
abbrev r_span_Of_3 : List COp := [o 13 (.bin .lss (.tm 12) (.tm 11))]
abbrev r_span_Of_4 : List COp := [o 14 (.iaddrL 2 (.tm 10) (.tm 12)), o 15 (.load true 2 (.tm 14)), o 5 (.alloc [(.i .i64 0), (.i .i64 0)] 252), oN (.store 2 (.tm 5) (.tm 15))]
abbrev r_span_Of_5 : List COp := [o 16 (.load true 2 (.tm 5)), oC 17 n_span_Span_near [(.tm 16)], oN (.store 2 (.tm 5) (.tm 17))]
abbrev r_span_Of_6 : List COp := [o 18 (.load true 2 (.tm 5)), oC 19 n_span_Span_empty [(.tm 18)], o 20 (.un .not (.tm 19))]
abbrev r_span_Of_7 : List COp := [o 21 (.mv (.tm 3)), o 22 (.load true 2 (.tm 5)), o 23 (.bslice 2 [(.i .i64 0), (.i .i64 0)] 1 [(0, (.tm 22))]), o 24 (.append false 2 16 (.tm 21) (.tm 23)), o 3 (.mv (.tm 24))]
abbrev r_span_Of_8 : List COp := [o 25 (.bin .add (.tm 12) (.k (.i .i64 1))), o 12 (.mv (.tm 25))]
def l_span_Of_0 : C := (.seq (.reg r_span_Of_3) (.seq (.cond (.tm 13) .skip (.exit 0)) (.seq (.blk 1 (.seq (.reg r_span_Of_4) (.seq (.reg r_span_Of_5) (.seq (.reg r_span_Of_6) (.cond (.tm 20) (.reg r_span_Of_7) .skip))))) (.reg r_span_Of_8))))
abbrev r_span_Of_9 : List COp := [o 26 (.mv (.tm 3)), oC 27 n_slices_SortFunc_Lspan_Span_span_Span [(.tm 26), (.fn n_span_Of_1)]]
abbrev r_span_Of_10 : List COp := [o 6 (.mv (.k (.sl none 0 (some 0) 0)))]
abbrev r_span_Of_11 : List COp := [o 28 (.mv (.tm 3)), o 29 (.len .slice (.tm 28)), o 30 (.mv (.k (.i .i64 0)))]
abbrev r_span_Of_12 : List COp := [o 31 (.bin .lss (.tm 30) (.tm 29))]
abbrev r_span_Of_13 : List COp := [o 32 (.iaddrL 2 (.tm 28) (.tm 30)), o 33 (.load true 2 (.tm 32)), o 8 (.alloc [(.i .i64 0), (.i .i64 0)] 252), oN (.store 2 (.tm 8) (.tm 33))]
abbrev r_span_Of_14 : List COp := [o 34 (.mv (.tm 6)), o 35 (.len .slice (.tm 34)), o 36 (.bin .sub (.tm 35) (.k (.i .i64 1))), o 9 (.mv (.tm 36))]
abbrev r_span_Of_15 : List COp := [o 37 (.mv (.tm 9)), o 38 (.bin .geq (.tm 37) (.k (.i .i64 0))), o 39 (.mv (.tm 38)), ⟨(some 40), (.op (.faddr 0 (.tm 8))), (some (39, true))⟩, ⟨(some 41), (.op (.load false 1 (.tm 40))), (some (39, true))⟩, ⟨(some 42), (.op (.mv (.tm 6))), (some (39, true))⟩, ⟨(some 43), (.op (.mv (.tm 9))), (some (39, true))⟩, ⟨(some 44), (.op (.iaddrL 2 (.tm 42) (.tm 43))), (some (39, true))⟩, ⟨(some 45), (.op (.faddr 1 (.tm 44))), (some (39, true))⟩, ⟨(some 46), (.op (.load false 1 (.tm 45))), (some (39, true))⟩, ⟨(some 47), (.op (.bin .leq (.tm 41) (.tm 46))), (some (39, true))⟩, o 48 (.pick (.tm 39) (.tm 47) (.k (.b false)))]
abbrev r_span_Of_16 : List COp := [o 49 (.mv (.tm 6)), o 50 (.mv (.tm 9)), o 51 (.mv (.tm 6)), o 52 (.mv (.tm 9)), o 53 (.iaddrL 2 (.tm 51) (.tm 52)), o 54 (.faddr 1 (.tm 53)), o 55 (.load false 1 (.tm 54)), o 56 (.faddr 1 (.tm 8)), o 57 (.load false 1 (.tm 56)), o 58 (.mxmn true [(.tm 55), (.tm 57)]), o 59 (.iaddrL 2 (.tm 49) (.tm 50)), o 60 (.faddr 1 (.tm 59)), oN (.store 1 (.tm 60) (.tm 58))]
abbrev r_span_Of_17 : List COp := [o 61 (.mv (.tm 6)), o 62 (.load true 2 (.tm 8)), o 63 (.bslice 2 [(.i .i64 0), (.i .i64 0)] 1 [(0, (.tm 62))]), o 64 (.append false 2 16 (.tm 61) (.tm 63)), o 6 (.mv (.tm 64))]
abbrev r_span_Of_18 : List COp := [o 65 (.bin .add (.tm 30) (.k (.i .i64 1))), o 30 (.mv (.tm 65))]
def l_span_Of_1 : C := (.seq (.reg r_span_Of_12) (.seq (.cond (.tm 31) .skip (.exit 2)) (.seq (.blk 3 (.seq (.reg r_span_Of_13) (.seq (.seq (.reg r_span_Of_14) (.seq (.draw r_span_Of_15 [] []) (.cond (.tm 48) (.seq (.draw r_span_Of_16 [] []) (.exit 3)) .skip))) (.reg r_span_Of_17)))) (.reg r_span_Of_18))))
abbrev r_span_Of_19 : List COp := [o 66 (.mv (.tm 6)), o 2 (.mv (.tm 66))]
def b_span_Of : C := (.seq (.reg r_span_Of_0) (.seq (.reg r_span_Of_1) (.seq (.seq (.reg r_span_Of_2) (.blk 0 (.loop l_span_Of_0))) (.seq (.reg r_span_Of_9) (.seq (.reg r_span_Of_10) (.seq (.seq (.reg r_span_Of_11) (.blk 2 (.loop l_span_Of_1))) (.seq (.reg r_span_Of_19) .ret)))))))
abbrev c_span_Of : CF := ⟨67, [(.tm 2)], b_span_Of⟩
/-! (*polliwog/ring.Ring[string]).First -/
abbrev r_ring_Ring_string_First_0 : List COp := [o 2 (.mv (.k (.s []))), o 3 (.mv (.k (.i .i64 0)))]
abbrev r_ring_Ring_string_First_1 : List COp := [o 5 (.mv (.tm 0)), o 6 (.nilck (.tm 5)), o 7 (.faddr 2 (.tm 6)), o 8 (.load false 1 (.tm 7)), o 9 (.bin .eql (.tm 8) (.k (.i .i64 0)))]
abbrev r_ring_Ring_string_First_2 : List COp := [o 4 (.mv (.k (.s [])))]
abbrev r_ring_Ring_string_First_3 : List COp := [o 10 (.mv (.tm 4)), o 2 (.mv (.tm 10)), o 3 (.mv (.k (.i .i64 9)))]
abbrev r_ring_Ring_string_First_4 : List COp := [o 11 (.mv (.tm 0)), o 12 (.nilck (.tm 11)), o 13 (.faddr 0 (.tm 12)), o 14 (.load false 1 (.tm 13)), o 15 (.mv (.tm 0)), o 16 (.nilck (.tm 15)), o 17 (.faddr 1 (.tm 16)), o 18 (.load false 1 (.tm 17)), o 19 (.iaddrL 1 (.tm 14) (.tm 18)), o 20 (.load false 1 (.tm 19)), o 2 (.mv (.tm 20)), o 3 (.mv (.k (.i .i64 0)))]
def b_ring_Ring_string_First : C := (.seq (.reg r_ring_Ring_string_First_0) (.seq (.seq (.reg r_ring_Ring_string_First_1) (.cond (.tm 9) (.seq (.reg r_ring_Ring_string_First_2) (.seq (.reg r_ring_Ring_string_First_3) .ret)) .skip)) (.seq (.draw r_ring_Ring_string_First_4 [] []) .ret)))
abbrev c_ring_Ring_string_First : CF := ⟨21, [(.tm 2), (.tm 3)], b_ring_Ring_string_First⟩
/-! slices.IndexFunc[[]polliwog/seq.Num,polliwog/seq.Num] -/
abbrev r_slices_IndexFunc_Lseq_Num_seq_Num_0 : List COp := [o 4 (.mv (.k (.i .i64 0)))]
abbrev r_slices_IndexFunc_Lseq_Num_seq_Num_1 : List COp := [o 6 (.mv (.tm 0)), o 7 (.len .slice (.tm 6)), o 8 (.mv (.k (.i .i64 0)))]
abbrev r_slices_IndexFunc_Lseq_Num_seq_Num_2 : List COp := [o 9 (.bin .lss (.tm 8) (.tm 7))]
abbrev r_slices_IndexFunc_Lseq_Num_seq_Num_3 : List COp := [o 10 (.mv (.tm 8)), o 5 (.mv (.tm 10))]
abbrev r_slices_IndexFunc_Lseq_Num_seq_Num_4 : List COp := [o 11 (.mv (.tm 1)), o 12 (.mv (.tm 0)), o 13 (.mv (.tm 5)), o 14 (.iaddrL 1 (.tm 12) (.tm 13)), o 15 (.load false 1 (.tm 14)), ⟨(some 16), (.callv (.tm 11) [(.tm 15)]), none⟩]
abbrev r_slices_IndexFunc_Lseq_Num_seq_Num_5 : List COp := [o 17 (.mv (.tm 5)), o 4 (.mv (.tm 17))]
abbrev r_slices_IndexFunc_Lseq_Num_seq_Num_6 : List COp := [o 18 (.bin .add (.tm 8) (.k (.i .i64 1))), o 8 (.mv (.tm 18))]
def l_slices_IndexFunc_Lseq_Num_seq_Num_0 : C := (.seq (.reg r_slices_IndexFunc_Lseq_Num_seq_Num_2) (.seq (.cond (.tm 9) .skip (.exit 0)) (.seq (.blk 1 (.seq (.reg r_slices_IndexFunc_Lseq_Num_seq_Num_3) (.seq (.reg r_slices_IndexFunc_Lseq_Num_seq_Num_4) (.cond (.tm 16) (.seq (.reg r_slices_IndexFunc_Lseq_Num_seq_Num_5) .ret) .skip)))) (.reg r_slices_IndexFunc_Lseq_Num_seq_Num_6))))
abbrev r_slices_IndexFunc_Lseq_Num_seq_Num_7 : List COp := [o 4 (.mv (.k (.i .i64 (-1))))]
def b_slices_IndexFunc_Lseq_Num_seq_Num : C := (.seq (.reg r_slices_IndexFunc_Lseq_Num_seq_Num_0) (.seq (.seq (.reg r_slices_IndexFunc_Lseq_Num_seq_Num_1) (.blk 0 (.loop l_slices_IndexFunc_Lseq_Num_seq_Num_0))) (.seq (.reg r_slices_IndexFunc_Lseq_Num_seq_Num_7) .ret)))
abbrev c_slices_IndexFunc_Lseq_Num_seq_Num : CF := ⟨19, [(.tm 4)], b_slices_IndexFunc_Lseq_Num_seq_Num⟩
/-! polliwog/crc.four -/
abbrev r_crc_four_0 : List COp := [o 2 (.mv (.k (.s [])))]
abbrev r_crc_four_1 : List COp := [o 3 (.mv (.tm 0)), o 4 (.bin .shr (.tm 3) (.k (.i .u64 24))), o 5 (.convI .u8 (.tm 4)), o 6 (.mv (.tm 0)), o 7 (.bin .shr (.tm 6) (.k (.i .u64 16))), o 8 (.convI .u8 (.tm 7)), o 9 (.mv (.tm 0)), o 10 (.bin .shr (.tm 9) (.k (.i .u64 8))), o 11 (.convI .u8 (.tm 10)), o 12 (.mv (.tm 0)), o 13 (.convI .u8 (.tm 12)), o 14 (.bslice 1 [(.i .u8 0)] 4 [(0, (.tm 5)), (1, (.tm 8)), (2, (.tm 11)), (3, (.tm 13))]), o 15 (.convBS (.tm 14)), o 2 (.mv (.tm 15))]
def b_crc_four : C := (.seq (.reg r_crc_four_0) (.seq (.reg r_crc_four_1) .ret))
abbrev c_crc_four : CF := ⟨16, [(.tm 2)], b_crc_four⟩
/-! (*polliwog/crc.Table).Sum -/
abbrev r_crc_Table_Sum_0 : List COp := [o 4 (.mv (.k (.i .u32 0)))]
abbrev r_crc_Table_Sum_1 : List COp := [o 5 (.mv (.k (.i .u32 4294967295)))]
abbrev r_crc_Table_Sum_2 : List COp := [o 9 (.mv (.tm 1)), o 10 (.len .slice (.tm 9)), o 11 (.mv (.k (.i .i64 0)))]
abbrev r_crc_Table_Sum_3 : List COp := [o 12 (.bin .lss (.tm 11) (.tm 10))]
abbrev r_crc_Table_Sum_4 : List COp := [o 13 (.iaddrL 1 (.tm 9) (.tm 11)), o 14 (.load false 1 (.tm 13)), o 7 (.mv (.tm 14))]
abbrev r_crc_Table_Sum_5 : List COp := [o 15 (.mv (.tm 7)), o 16 (.len .str (.tm 15)), o 17 (.mv (.k (.i .i64 0)))]
abbrev r_crc_Table_Sum_6 : List COp := [o 18 (.bin .lss (.tm 17) (.tm 16))]
abbrev r_crc_Table_Sum_7 : List COp := [o 19 (.mv (.tm 17)), o 8 (.mv (.tm 19))]
abbrev r_crc_Table_Sum_8 : List COp := [o 20 (.mv (.tm 5)), o 21 (.bin .shl (.tm 20) (.k (.i .u64 8))), o 22 (.mv (.tm 0)), o 23 (.mv (.tm 5)), o 24 (.bin .shr (.tm 23) (.k (.i .u64 24))), o 25 (.convI .u8 (.tm 24)), o 26 (.mv (.tm 7)), o 27 (.mv (.tm 8)), o 28 (.indexS (.tm 26) (.tm 27)), o 29 (.bin .xor (.tm 25) (.tm 28)), o 30 (.nilck (.tm 22)), o 31 (.iaddrA 256 1 (.tm 30) (.tm 29)), o 32 (.load false 1 (.tm 31)), o 33 (.bin .xor (.tm 21) (.tm 32)), o 5 (.mv (.tm 33))]
abbrev r_crc_Table_Sum_9 : List COp := [o 34 (.bin .add (.tm 17) (.k (.i .i64 1))), o 17 (.mv (.tm 34))]
def l_crc_Table_Sum_0 : C := (.seq (.reg r_crc_Table_Sum_6) (.seq (.cond (.tm 18) .skip (.exit 2)) (.seq (.blk 3 (.seq (.reg r_crc_Table_Sum_7) (.draw r_crc_Table_Sum_8 [] []))) (.reg r_crc_Table_Sum_9))))
abbrev r_crc_Table_Sum_10 : List COp := [o 35 (.bin .add (.tm 11) (.k (.i .i64 1))), o 11 (.mv (.tm 35))]
def l_crc_Table_Sum_1 : C := (.seq (.reg r_crc_Table_Sum_3) (.seq (.cond (.tm 12) .skip (.exit 0)) (.seq (.blk 1 (.seq (.reg r_crc_Table_Sum_4) (.seq (.reg r_crc_Table_Sum_5) (.blk 2 (.loop l_crc_Table_Sum_0))))) (.reg r_crc_Table_Sum_10))))
abbrev r_crc_Table_Sum_11 : List COp := [o 36 (.mv (.tm 5)), o 37 (.un .xor (.tm 36)), o 4 (.mv (.tm 37))]
def b_crc_Table_Sum : C := (.seq (.reg r_crc_Table_Sum_0) (.seq (.reg r_crc_Table_Sum_1) (.seq (.seq (.reg r_crc_Table_Sum_2) (.blk 0 (.loop l_crc_Table_Sum_1))) (.seq (.reg r_crc_Table_Sum_11) .ret))))
abbrev c_crc_Table_Sum : CF := ⟨38, [(.tm 4)], b_crc_Table_Sum⟩
/-! (*polliwog/conn.act).again -/
abbrev r_conn_act_again_0 : List COp := [o 3 (.mv (.tm 0)), o 4 (.nilck (.tm 3)), o 5 (.faddr 0 (.tm 4)), o 6 (.load false 1 (.tm 5)), o 7 (.nilck (.tm 6)), o 8 (.faddr 2 (.tm 7)), o 9 (.faddr 1 (.tm 8)), o 10 (.load false 1 (.tm 9)), o 11 (.mv (.tm 0)), o 12 (.nilck (.tm 11)), o 13 (.faddr 0 (.tm 12)), o 14 (.load false 1 (.tm 13)), o 15 (.nilck (.tm 14)), o 16 (.faddr 7 (.tm 15)), o 17 (.load false 1 (.tm 16)), o 18 (.build [(.i .i64 0), (.i .i64 0), (.i .u32 0), (.i .u32 0), (.i .u32 0), (.sl none 0 (some 0) 0), (.b false), (.s [])] [(1, 1, (.tm 10)), (7, 1, (.tm 17))]), o 2 (.alloc [(.i .i64 0), (.i .i64 0), (.i .u32 0), (.i .u32 0), (.i .u32 0), (.sl none 0 (some 0) 0), (.b false), (.s [])] 59), oN (.store 8 (.tm 2) (.tm 18))]
abbrev r_conn_act_again_1 : List COp := [o 19 (.mv (.tm 0)), o 20 (.nilck (.tm 19)), o 21 (.faddr 0 (.tm 20)), o 22 (.load false 1 (.tm 21)), o 23 (.nilck (.tm 22)), o 24 (.faddr 2 (.tm 23)), o 25 (.faddr 0 (.tm 24)), o 26 (.load false 1 (.tm 25))]
abbrev r_conn_act_again_2 : List COp := [o 29 (.bin .eql (.tm 26) (.k (.i .i64 2))), o 28 (.mv (.tm 29))]
abbrev r_conn_act_again_3 : List COp := [o 30 (.faddr 0 (.tm 2)), oN (.store 1 (.tm 30) (.k (.i .i64 1)))]
abbrev r_conn_act_again_4 : List COp := [o 32 (.bin .eql (.tm 26) (.k (.i .i64 4))), o 31 (.mv (.tm 32))]
abbrev r_conn_act_again_5 : List COp := [o 33 (.faddr 0 (.tm 2)), oN (.store 1 (.tm 33) (.k (.i .i64 3)))]
abbrev r_conn_act_again_6 : List COp := [o 35 (.bin .eql (.tm 26) (.k (.i .i64 5))), o 34 (.mv (.tm 35))]
abbrev r_conn_act_again_7 : List COp := [o 36 (.faddr 0 (.tm 2)), oN (.store 1 (.tm 36) (.k (.i .i64 5)))]
abbrev r_conn_act_again_8 : List COp := [o 27 (.faddr 0 (.tm 2)), oN (.store 1 (.tm 27) (.k (.i .i64 9)))]
abbrev r_conn_act_again_9 : List COp := [o 37 (.mv (.tm 0)), o 38 (.load true 8 (.tm 2)), oC 39 n_conn_act_out [(.tm 37), (.tm 38)]]
abbrev r_conn_act_again_10 : List COp := [o 40 (.mv (.tm 0)), o 41 (.nilck (.tm 40)), o 42 (.faddr 1 (.tm 41)), o 43 (.faddr 5 (.tm 42)), oN (.store 1 (.tm 43) (.k (.i .i64 1)))]
def b_conn_act_again : C := (.seq (.draw r_conn_act_again_0 [] []) (.seq (.seq (.reg r_conn_act_again_1) (.blk 0 (.seq (.reg r_conn_act_again_2) (.cond (.tm 28) (.reg r_conn_act_again_3) (.seq (.reg r_conn_act_again_4) (.cond (.tm 31) (.reg r_conn_act_again_5) (.seq (.reg r_conn_act_again_6) (.cond (.tm 34) (.reg r_conn_act_again_7) (.reg r_conn_act_again_8))))))))) (.seq (.reg r_conn_act_again_9) (.reg r_conn_act_again_10))))
abbrev c_conn_act_again : CF := ⟨44, [], b_conn_act_again⟩
/-! (*polliwog/conn.act).stop -/
abbrev r_conn_act_stop_0 : List COp := [o 4 (.mv (.tm 0)), o 5 (.mv (.tm 1)), oC 6 n_conn_act_to [(.tm 4), (.tm 5)]]
abbrev r_conn_act_stop_1 : List COp := [o 7 (.mv (.tm 0)), o 8 (.nilck (.tm 7)), o 9 (.faddr 1 (.tm 8)), o 10 (.faddr 5 (.tm 9)), oN (.store 1 (.tm 10) (.k (.i .i64 2)))]
def b_conn_act_stop : C := (.seq (.reg r_conn_act_stop_0) (.reg r_conn_act_stop_1))
abbrev c_conn_act_stop : CF := ⟨11, [], b_conn_act_stop⟩
/-! (polliwog/span.Span).near -/
abbrev r_span_Span_near_0 : List COp := [o 1 (.box (.tm 0)), o 2 (.alloc [(.i .i64 0), (.i .i64 0)] 252)]
abbrev r_span_Span_near_1 : List COp := [o 3 (.faddr 0 (.tm 1)), o 4 (.load false 1 (.tm 3)), o 5 (.mxmn false [(.tm 4), (.k (.i .i64 1099511627776))]), o 6 (.mxmn true [(.k (.i .i64 (-1099511627776))), (.tm 5)]), o 7 (.faddr 1 (.tm 1)), o 8 (.load false 1 (.tm 7)), o 9 (.mxmn false [(.tm 8), (.k (.i .i64 1099511627777))]), o 10 (.mxmn true [(.k (.i .i64 (-1099511627776))), (.tm 9)]), o 11 (.build [(.i .i64 0), (.i .i64 0)] [(0, 1, (.tm 6)), (1, 1, (.tm 10))]), oN (.store 2 (.tm 2) (.tm 11))]
def b_span_Span_near : C := (.seq (.reg r_span_Span_near_0) (.seq (.reg r_span_Span_near_1) .ret))
abbrev c_span_Span_near : CF := ⟨12, [(.cell 2 true 2)], b_span_Span_near⟩
/-! (polliwog/span.Span).empty -/
abbrev r_span_Span_empty_0 : List COp := [o 1 (.box (.tm 0)), o 2 (.mv (.k (.b false)))]
abbrev r_span_Span_empty_1 : List COp := [o 3 (.faddr 1 (.tm 1)), o 4 (.load false 1 (.tm 3)), o 5 (.faddr 0 (.tm 1)), o 6 (.load false 1 (.tm 5)), o 7 (.bin .leq (.tm 4) (.tm 6)), o 2 (.mv (.tm 7))]
def b_span_Span_empty : C := (.seq (.reg r_span_Span_empty_0) (.seq (.reg r_span_Span_empty_1) .ret))
abbrev c_span_Span_empty : CF := ⟨8, [(.tm 2)], b_span_Span_empty⟩
/-! polliwog/span.Of$1 -/
abbrev r_span_Of_1_0 : List COp := [o 2 (.box (.tm 0)), o 3 (.box (.tm 1)), o 4 (.mv (.k (.i .i64 0)))]
abbrev r_span_Of_1_1 : List COp := [o 5 (.faddr 0 (.tm 2)), o 6 (.load false 1 (.tm 5)), o 7 (.faddr 0 (.tm 3)), o 8 (.load false 1 (.tm 7)), oC 9 n_cmp_Compare_int [(.tm 6), (.tm 8)], o 4 (.mv (.tm 9))]
def b_span_Of_1 : C := (.seq (.reg r_span_Of_1_0) (.seq (.reg r_span_Of_1_1) .ret))
abbrev c_span_Of_1 : CF := ⟨10, [(.tm 4)], b_span_Of_1⟩
/-! cmp.Compare[int] -/
abbrev r_cmp_Compare_int_0 : List COp := [o 4 (.mv (.k (.i .i64 0)))]
abbrev r_cmp_Compare_int_1 : List COp := [o 7 (.mv (.tm 0)), oC 8 n_cmp_isNaN_int [(.tm 7)], o 5 (.mv (.tm 8))]
abbrev r_cmp_Compare_int_2 : List COp := [o 9 (.mv (.tm 1)), oC 10 n_cmp_isNaN_int [(.tm 9)], o 6 (.mv (.tm 10))]
abbrev r_cmp_Compare_int_3 : List COp := [o 11 (.mv (.tm 5))]
abbrev r_cmp_Compare_int_4 : List COp := [o 12 (.mv (.tm 6))]
abbrev r_cmp_Compare_int_5 : List COp := [o 4 (.mv (.k (.i .i64 0)))]
abbrev r_cmp_Compare_int_6 : List COp := [o 4 (.mv (.k (.i .i64 (-1))))]
abbrev r_cmp_Compare_int_7 : List COp := [o 13 (.mv (.tm 6))]
abbrev r_cmp_Compare_int_8 : List COp := [o 4 (.mv (.k (.i .i64 1)))]
abbrev r_cmp_Compare_int_9 : List COp := [o 14 (.mv (.tm 0)), o 15 (.mv (.tm 1)), o 16 (.bin .lss (.tm 14) (.tm 15))]
abbrev r_cmp_Compare_int_10 : List COp := [o 4 (.mv (.k (.i .i64 (-1))))]
abbrev r_cmp_Compare_int_11 : List COp := [o 17 (.mv (.tm 0)), o 18 (.mv (.tm 1)), o 19 (.bin .gtr (.tm 17) (.tm 18))]
abbrev r_cmp_Compare_int_12 : List COp := [o 4 (.mv (.k (.i .i64 1)))]
abbrev r_cmp_Compare_int_13 : List COp := [o 4 (.mv (.k (.i .i64 0)))]
def b_cmp_Compare_int : C := (.seq (.reg r_cmp_Compare_int_0) (.seq (.reg r_cmp_Compare_int_1) (.seq (.reg r_cmp_Compare_int_2) (.seq (.seq (.reg r_cmp_Compare_int_3) (.cond (.tm 11) (.seq (.seq (.reg r_cmp_Compare_int_4) (.cond (.tm 12) (.seq (.reg r_cmp_Compare_int_5) .ret) .skip)) (.seq (.reg r_cmp_Compare_int_6) .ret)) .skip)) (.seq (.seq (.reg r_cmp_Compare_int_7) (.cond (.tm 13) (.seq (.reg r_cmp_Compare_int_8) .ret) .skip)) (.seq (.seq (.reg r_cmp_Compare_int_9) (.cond (.tm 16) (.seq (.reg r_cmp_Compare_int_10) .ret) .skip)) (.seq (.seq (.reg r_cmp_Compare_int_11) (.cond (.tm 19) (.seq (.reg r_cmp_Compare_int_12) .ret) .skip)) (.seq (.reg r_cmp_Compare_int_13) .ret))))))))
abbrev c_cmp_Compare_int : CF := ⟨20, [(.tm 4)], b_cmp_Compare_int⟩
/-! cmp.isNaN[int] -/
abbrev r_cmp_isNaN_int_0 : List COp := [o 2 (.mv (.k (.b false)))]
abbrev r_cmp_isNaN_int_1 : List COp := [o 3 (.mv (.tm 0)), o 4 (.mv (.tm 0)), o 5 (.bin .neq (.tm 3) (.tm 4)), o 2 (.mv (.tm 5))]
def b_cmp_isNaN_int : C := (.seq (.reg r_cmp_isNaN_int_0) (.seq (.reg r_cmp_isNaN_int_1) .ret))
abbrev c_cmp_isNaN_int : CF := ⟨6, [(.tm 2)], b_cmp_isNaN_int⟩
def F : Nat → Option CF
  | 3 => some c_law18_LinkConfigs
  | 4 => some c_law18_awake
  | 5 => some c_law18_LinkConfigs_1
  | 6 => some c_link_New
  | 7 => some c_law18_Config_Own
  | 8 => some c_ref16_Check
  | 9 => some c_link_Config_Check
  | 10 => some c_law18_Start
  | 11 => some c_link_Link_Quiet
  | 12 => some c_link_Link_Request
  | 13 => some c_link_Link_Pipe
  | 14 => some c_ring_Ring_string_Len
  | 15 => some c_link_Link_Node
  | 16 => some c_wire_New
  | 17 => some c_node_New
  | 18 => some c_pipe_New
  | 19 => some c_law16_Own
  | 20 => some c_ref15_Check
  | 21 => some c_node_Config_Check
  | 22 => some c_law18_Config_Right
  | 23 => some c_ref18_New
  | 24 => some c_node_Node_Quiet
  | 25 => some c_link_is
  | 26 => some c_node_Node_Request
  | 27 => some c_link_Link_pump
  | 28 => some c_link_told
  | 29 => some c_crc_Make
  | 30 => some c_pace_New
  | 31 => some c_conn_New
  | 32 => some c_seq_Num_Add
  | 33 => some c_ring_New_pdu_PDU
  | 34 => some c_ring_New_string
  | 35 => some c_seq_Of
  | 36 => some c_law15_Own
  | 37 => some c_node_Config_Check_1
  | 38 => some c_seq_Num_Low
  | 39 => some c_pace_Config_Check
  | 40 => some c_law16_Right
  | 41 => some c_ref16_New
  | 42 => some c_ring_Ring_pdu_PDU_Len
  | 43 => some c_node_Node_ready
  | 44 => some c_node_Node_idle
  | 45 => some c_recv_Recv_Vars
  | 46 => some c_event_Request_Check
  | 47 => some c_rules_May
  | 48 => some c_conn_Conn_Vars
  | 49 => some c_node_Node_ask
  | 50 => some c_node_Node_credit
  | 51 => some c_ring_Ring_string_Room
  | 52 => some c_node_Node_Next
  | 53 => some c_wire_Wire_Pack
  | 54 => some c_pipe_Pipe_Put
  | 55 => some c_law16_Right_1
  | 56 => some c_ref01_Of
  | 57 => some c_law15_Right
  | 58 => some c_ref14_New
  | 59 => some c_ref15_New
  | 60 => some c_send_Send_Idle
  | 61 => some c_rules_requests
  | 62 => some c_send_Send_Put
  | 63 => some c_pace_Pace_Busy
  | 64 => some c_ring_Ring_pdu_PDU_Put
  | 65 => some c_recv_Recv_Take
  | 66 => some c_conn_Conn_Request
  | 67 => some c_node_Node_bring
  | 68 => some c_send_Send_Lacks
  | 69 => some c_node_report
  | 70 => some c_slices_Clone_Lpdu_PDU_pdu_PDU
  | 71 => some c_ring_Ring_pdu_PDU_Take
  | 72 => some c_recv_Recv_Stat
  | 73 => some c_recv_Recv_Gap
  | 74 => some c_send_Send_Due
  | 75 => some c_send_Send_Poll
  | 76 => some c_pace_Pace_Polled
  | 77 => some c_send_Send_Next
  | 78 => some c_pdu_PDU_Check
  | 79 => some c_pdu_PDU_Bytes
  | 80 => some c_frame_Frame_Bytes
  | 81 => some c_ring_Ring_string_Put
  | 82 => some c_rules_row
  | 83 => some c_timer_Bank_Runs
  | 84 => some c_pace_Pace_stop
  | 85 => some c_timer_Bank_Start
  | 86 => some c_pace_Pace_watch
  | 87 => some c_ring_Ring_pdu_PDU_Room
  | 88 => some c_ring_Ring_pdu_PDU_grow
  | 89 => some c_ring_Ring_pdu_PDU_place
  | 90 => some c_slices_Clone_Lstring_string
  | 91 => some c_conn_Conn_done
  | 92 => some c_conn_Conn_Request_1
  | 93 => some c_conn_act_ask
  | 94 => some c_slices_DeleteFunc_Lpdu_PDU_pdu_PDU
  | 95 => some c_node_Node_bring_1
  | 96 => some c_pace_Pace_Again
  | 97 => some c_pace_Pace_Enough
  | 98 => some c_pace_Pace_End
  | 99 => some c_send_Send_Left
  | 100 => some c_node_Node_over
  | 101 => some c_send_New
  | 102 => some c_recv_New
  | 103 => some c_send_Send_Open
  | 104 => some c_pace_Pace_Begin
  | 105 => some c_ring_Ring_pdu_PDU_First
  | 106 => some c_recv_Recv_renew
  | 107 => some c_gaps_List
  | 109 => some c_recv_Recv_still
  | 110 => some c_send_Send_out
  | 111 => some c_ring_Ring_string_Take
  | 112 => some c_pdu_shapeOf
  | 113 => some c_pdu_low
  | 114 => some c_slices_ContainsFunc_Lseq_Num_seq_Num
  | 115 => some c_pdu_PDU_Check_1
  | 116 => some c_strings_Builder_WriteString
  | 118 => some c_pdu_PDU_words
  | 119 => some c_pdu_four
  | 120 => some c_pdu_bit
  | 122 => some c_frame_Cells
  | 123 => some c_crc_Table_Seal
  | 124 => some c_ring_Ring_string_grow
  | 125 => some c_ring_Ring_string_place
  | 126 => some c_timer_Bank_Left
  | 127 => some c_timer_Bank_Stop
  | 128 => some c_timer_is
  | 129 => some c_ring_Ring_pdu_PDU_All
  | 130 => some c_conn_act_begin
  | 131 => some c_conn_act_out
  | 132 => some c_conn_act_ready
  | 133 => some c_conn_act_to
  | 134 => some c_conn_act_leave
  | 135 => some c_slices_IndexFunc_Lpdu_PDU_pdu_PDU
  | 136 => some c_ring_Ring_string_All
  | 137 => some c_send_New_1
  | 138 => some c_seq_Num_To
  | 139 => some c_seq_Max
  | 140 => some c_span_Set_Both
  | 141 => some c_span_Of
  | 143 => some c_ring_Ring_string_First
  | 144 => some c_slices_IndexFunc_Lseq_Num_seq_Num
  | 150 => some c_crc_four
  | 151 => some c_crc_Table_Sum
  | 152 => some c_conn_act_again
  | 153 => some c_conn_act_stop
  | 154 => some c_span_Span_near
  | 155 => some c_span_Span_empty
  | 157 => some c_span_Of_1
  | 158 => some c_cmp_Compare_int
  | 166 => some c_cmp_isNaN_int
  | _ => none
theorem F_law18_LinkConfigs : F n_law18_LinkConfigs = some c_law18_LinkConfigs := rfl
theorem F_law18_awake : F n_law18_awake = some c_law18_awake := rfl
theorem F_law18_LinkConfigs_1 : F n_law18_LinkConfigs_1 = some c_law18_LinkConfigs_1 := rfl
theorem F_link_New : F n_link_New = some c_link_New := rfl
theorem F_law18_Config_Own : F n_law18_Config_Own = some c_law18_Config_Own := rfl
theorem F_ref16_Check : F n_ref16_Check = some c_ref16_Check := rfl
theorem F_link_Config_Check : F n_link_Config_Check = some c_link_Config_Check := rfl
theorem F_law18_Start : F n_law18_Start = some c_law18_Start := rfl
theorem F_link_Link_Quiet : F n_link_Link_Quiet = some c_link_Link_Quiet := rfl
theorem F_link_Link_Request : F n_link_Link_Request = some c_link_Link_Request := rfl
theorem F_link_Link_Pipe : F n_link_Link_Pipe = some c_link_Link_Pipe := rfl
theorem F_ring_Ring_string_Len : F n_ring_Ring_string_Len = some c_ring_Ring_string_Len := rfl
theorem F_link_Link_Node : F n_link_Link_Node = some c_link_Link_Node := rfl
theorem F_wire_New : F n_wire_New = some c_wire_New := rfl
theorem F_node_New : F n_node_New = some c_node_New := rfl
theorem F_pipe_New : F n_pipe_New = some c_pipe_New := rfl
theorem F_law16_Own : F n_law16_Own = some c_law16_Own := rfl
theorem F_ref15_Check : F n_ref15_Check = some c_ref15_Check := rfl
theorem F_node_Config_Check : F n_node_Config_Check = some c_node_Config_Check := rfl
theorem F_law18_Config_Right : F n_law18_Config_Right = some c_law18_Config_Right := rfl
theorem F_ref18_New : F n_ref18_New = some c_ref18_New := rfl
theorem F_node_Node_Quiet : F n_node_Node_Quiet = some c_node_Node_Quiet := rfl
theorem F_link_is : F n_link_is = some c_link_is := rfl
theorem F_node_Node_Request : F n_node_Node_Request = some c_node_Node_Request := rfl
theorem F_link_Link_pump : F n_link_Link_pump = some c_link_Link_pump := rfl
theorem F_link_told : F n_link_told = some c_link_told := rfl
theorem F_crc_Make : F n_crc_Make = some c_crc_Make := rfl
theorem F_pace_New : F n_pace_New = some c_pace_New := rfl
theorem F_conn_New : F n_conn_New = some c_conn_New := rfl
theorem F_seq_Num_Add : F n_seq_Num_Add = some c_seq_Num_Add := rfl
theorem F_ring_New_pdu_PDU : F n_ring_New_pdu_PDU = some c_ring_New_pdu_PDU := rfl
theorem F_ring_New_string : F n_ring_New_string = some c_ring_New_string := rfl
theorem F_seq_Of : F n_seq_Of = some c_seq_Of := rfl
theorem F_law15_Own : F n_law15_Own = some c_law15_Own := rfl
theorem F_node_Config_Check_1 : F n_node_Config_Check_1 = some c_node_Config_Check_1 := rfl
theorem F_seq_Num_Low : F n_seq_Num_Low = some c_seq_Num_Low := rfl
theorem F_pace_Config_Check : F n_pace_Config_Check = some c_pace_Config_Check := rfl
theorem F_law16_Right : F n_law16_Right = some c_law16_Right := rfl
theorem F_ref16_New : F n_ref16_New = some c_ref16_New := rfl
theorem F_ring_Ring_pdu_PDU_Len : F n_ring_Ring_pdu_PDU_Len = some c_ring_Ring_pdu_PDU_Len := rfl
theorem F_node_Node_ready : F n_node_Node_ready = some c_node_Node_ready := rfl
theorem F_node_Node_idle : F n_node_Node_idle = some c_node_Node_idle := rfl
theorem F_recv_Recv_Vars : F n_recv_Recv_Vars = some c_recv_Recv_Vars := rfl
theorem F_event_Request_Check : F n_event_Request_Check = some c_event_Request_Check := rfl
theorem F_rules_May : F n_rules_May = some c_rules_May := rfl
theorem F_conn_Conn_Vars : F n_conn_Conn_Vars = some c_conn_Conn_Vars := rfl
theorem F_node_Node_ask : F n_node_Node_ask = some c_node_Node_ask := rfl
theorem F_node_Node_credit : F n_node_Node_credit = some c_node_Node_credit := rfl
theorem F_ring_Ring_string_Room : F n_ring_Ring_string_Room = some c_ring_Ring_string_Room := rfl
theorem F_node_Node_Next : F n_node_Node_Next = some c_node_Node_Next := rfl
theorem F_wire_Wire_Pack : F n_wire_Wire_Pack = some c_wire_Wire_Pack := rfl
theorem F_pipe_Pipe_Put : F n_pipe_Pipe_Put = some c_pipe_Pipe_Put := rfl
theorem F_law16_Right_1 : F n_law16_Right_1 = some c_law16_Right_1 := rfl
theorem F_ref01_Of : F n_ref01_Of = some c_ref01_Of := rfl
theorem F_law15_Right : F n_law15_Right = some c_law15_Right := rfl
theorem F_ref14_New : F n_ref14_New = some c_ref14_New := rfl
theorem F_ref15_New : F n_ref15_New = some c_ref15_New := rfl
theorem F_send_Send_Idle : F n_send_Send_Idle = some c_send_Send_Idle := rfl
theorem F_rules_requests : F n_rules_requests = some c_rules_requests := rfl
theorem F_send_Send_Put : F n_send_Send_Put = some c_send_Send_Put := rfl
theorem F_pace_Pace_Busy : F n_pace_Pace_Busy = some c_pace_Pace_Busy := rfl
theorem F_ring_Ring_pdu_PDU_Put : F n_ring_Ring_pdu_PDU_Put = some c_ring_Ring_pdu_PDU_Put := rfl
theorem F_recv_Recv_Take : F n_recv_Recv_Take = some c_recv_Recv_Take := rfl
theorem F_conn_Conn_Request : F n_conn_Conn_Request = some c_conn_Conn_Request := rfl
theorem F_node_Node_bring : F n_node_Node_bring = some c_node_Node_bring := rfl
theorem F_send_Send_Lacks : F n_send_Send_Lacks = some c_send_Send_Lacks := rfl
theorem F_node_report : F n_node_report = some c_node_report := rfl
theorem F_slices_Clone_Lpdu_PDU_pdu_PDU : F n_slices_Clone_Lpdu_PDU_pdu_PDU = some c_slices_Clone_Lpdu_PDU_pdu_PDU := rfl
theorem F_ring_Ring_pdu_PDU_Take : F n_ring_Ring_pdu_PDU_Take = some c_ring_Ring_pdu_PDU_Take := rfl
theorem F_recv_Recv_Stat : F n_recv_Recv_Stat = some c_recv_Recv_Stat := rfl
theorem F_recv_Recv_Gap : F n_recv_Recv_Gap = some c_recv_Recv_Gap := rfl
theorem F_send_Send_Due : F n_send_Send_Due = some c_send_Send_Due := rfl
theorem F_send_Send_Poll : F n_send_Send_Poll = some c_send_Send_Poll := rfl
theorem F_pace_Pace_Polled : F n_pace_Pace_Polled = some c_pace_Pace_Polled := rfl
theorem F_send_Send_Next : F n_send_Send_Next = some c_send_Send_Next := rfl
theorem F_pdu_PDU_Check : F n_pdu_PDU_Check = some c_pdu_PDU_Check := rfl
theorem F_pdu_PDU_Bytes : F n_pdu_PDU_Bytes = some c_pdu_PDU_Bytes := rfl
theorem F_frame_Frame_Bytes : F n_frame_Frame_Bytes = some c_frame_Frame_Bytes := rfl
theorem F_ring_Ring_string_Put : F n_ring_Ring_string_Put = some c_ring_Ring_string_Put := rfl
theorem F_rules_row : F n_rules_row = some c_rules_row := rfl
theorem F_timer_Bank_Runs : F n_timer_Bank_Runs = some c_timer_Bank_Runs := rfl
theorem F_pace_Pace_stop : F n_pace_Pace_stop = some c_pace_Pace_stop := rfl
theorem F_timer_Bank_Start : F n_timer_Bank_Start = some c_timer_Bank_Start := rfl
theorem F_pace_Pace_watch : F n_pace_Pace_watch = some c_pace_Pace_watch := rfl
theorem F_ring_Ring_pdu_PDU_Room : F n_ring_Ring_pdu_PDU_Room = some c_ring_Ring_pdu_PDU_Room := rfl
theorem F_ring_Ring_pdu_PDU_grow : F n_ring_Ring_pdu_PDU_grow = some c_ring_Ring_pdu_PDU_grow := rfl
theorem F_ring_Ring_pdu_PDU_place : F n_ring_Ring_pdu_PDU_place = some c_ring_Ring_pdu_PDU_place := rfl
theorem F_slices_Clone_Lstring_string : F n_slices_Clone_Lstring_string = some c_slices_Clone_Lstring_string := rfl
theorem F_conn_Conn_done : F n_conn_Conn_done = some c_conn_Conn_done := rfl
theorem F_conn_Conn_Request_1 : F n_conn_Conn_Request_1 = some c_conn_Conn_Request_1 := rfl
theorem F_conn_act_ask : F n_conn_act_ask = some c_conn_act_ask := rfl
theorem F_slices_DeleteFunc_Lpdu_PDU_pdu_PDU : F n_slices_DeleteFunc_Lpdu_PDU_pdu_PDU = some c_slices_DeleteFunc_Lpdu_PDU_pdu_PDU := rfl
theorem F_node_Node_bring_1 : F n_node_Node_bring_1 = some c_node_Node_bring_1 := rfl
theorem F_pace_Pace_Again : F n_pace_Pace_Again = some c_pace_Pace_Again := rfl
theorem F_pace_Pace_Enough : F n_pace_Pace_Enough = some c_pace_Pace_Enough := rfl
theorem F_pace_Pace_End : F n_pace_Pace_End = some c_pace_Pace_End := rfl
theorem F_send_Send_Left : F n_send_Send_Left = some c_send_Send_Left := rfl
theorem F_node_Node_over : F n_node_Node_over = some c_node_Node_over := rfl
theorem F_send_New : F n_send_New = some c_send_New := rfl
theorem F_recv_New : F n_recv_New = some c_recv_New := rfl
theorem F_send_Send_Open : F n_send_Send_Open = some c_send_Send_Open := rfl
theorem F_pace_Pace_Begin : F n_pace_Pace_Begin = some c_pace_Pace_Begin := rfl
theorem F_ring_Ring_pdu_PDU_First : F n_ring_Ring_pdu_PDU_First = some c_ring_Ring_pdu_PDU_First := rfl
theorem F_recv_Recv_renew : F n_recv_Recv_renew = some c_recv_Recv_renew := rfl
theorem F_gaps_List : F n_gaps_List = some c_gaps_List := rfl
theorem F_recv_Recv_still : F n_recv_Recv_still = some c_recv_Recv_still := rfl
theorem F_send_Send_out : F n_send_Send_out = some c_send_Send_out := rfl
theorem F_ring_Ring_string_Take : F n_ring_Ring_string_Take = some c_ring_Ring_string_Take := rfl
theorem F_pdu_shapeOf : F n_pdu_shapeOf = some c_pdu_shapeOf := rfl
theorem F_pdu_low : F n_pdu_low = some c_pdu_low := rfl
theorem F_slices_ContainsFunc_Lseq_Num_seq_Num : F n_slices_ContainsFunc_Lseq_Num_seq_Num = some c_slices_ContainsFunc_Lseq_Num_seq_Num := rfl
theorem F_pdu_PDU_Check_1 : F n_pdu_PDU_Check_1 = some c_pdu_PDU_Check_1 := rfl
theorem F_strings_Builder_WriteString : F n_strings_Builder_WriteString = some c_strings_Builder_WriteString := rfl
theorem F_pdu_PDU_words : F n_pdu_PDU_words = some c_pdu_PDU_words := rfl
theorem F_pdu_four : F n_pdu_four = some c_pdu_four := rfl
theorem F_pdu_bit : F n_pdu_bit = some c_pdu_bit := rfl
theorem F_frame_Cells : F n_frame_Cells = some c_frame_Cells := rfl
theorem F_crc_Table_Seal : F n_crc_Table_Seal = some c_crc_Table_Seal := rfl
theorem F_ring_Ring_string_grow : F n_ring_Ring_string_grow = some c_ring_Ring_string_grow := rfl
theorem F_ring_Ring_string_place : F n_ring_Ring_string_place = some c_ring_Ring_string_place := rfl
theorem F_timer_Bank_Left : F n_timer_Bank_Left = some c_timer_Bank_Left := rfl
theorem F_timer_Bank_Stop : F n_timer_Bank_Stop = some c_timer_Bank_Stop := rfl
theorem F_timer_is : F n_timer_is = some c_timer_is := rfl
theorem F_ring_Ring_pdu_PDU_All : F n_ring_Ring_pdu_PDU_All = some c_ring_Ring_pdu_PDU_All := rfl
theorem F_conn_act_begin : F n_conn_act_begin = some c_conn_act_begin := rfl
theorem F_conn_act_out : F n_conn_act_out = some c_conn_act_out := rfl
theorem F_conn_act_ready : F n_conn_act_ready = some c_conn_act_ready := rfl
theorem F_conn_act_to : F n_conn_act_to = some c_conn_act_to := rfl
theorem F_conn_act_leave : F n_conn_act_leave = some c_conn_act_leave := rfl
theorem F_slices_IndexFunc_Lpdu_PDU_pdu_PDU : F n_slices_IndexFunc_Lpdu_PDU_pdu_PDU = some c_slices_IndexFunc_Lpdu_PDU_pdu_PDU := rfl
theorem F_ring_Ring_string_All : F n_ring_Ring_string_All = some c_ring_Ring_string_All := rfl
theorem F_send_New_1 : F n_send_New_1 = some c_send_New_1 := rfl
theorem F_seq_Num_To : F n_seq_Num_To = some c_seq_Num_To := rfl
theorem F_seq_Max : F n_seq_Max = some c_seq_Max := rfl
theorem F_span_Set_Both : F n_span_Set_Both = some c_span_Set_Both := rfl
theorem F_span_Of : F n_span_Of = some c_span_Of := rfl
theorem F_ring_Ring_string_First : F n_ring_Ring_string_First = some c_ring_Ring_string_First := rfl
theorem F_slices_IndexFunc_Lseq_Num_seq_Num : F n_slices_IndexFunc_Lseq_Num_seq_Num = some c_slices_IndexFunc_Lseq_Num_seq_Num := rfl
theorem F_crc_four : F n_crc_four = some c_crc_four := rfl
theorem F_crc_Table_Sum : F n_crc_Table_Sum = some c_crc_Table_Sum := rfl
theorem F_conn_act_again : F n_conn_act_again = some c_conn_act_again := rfl
theorem F_conn_act_stop : F n_conn_act_stop = some c_conn_act_stop := rfl
theorem F_span_Span_near : F n_span_Span_near = some c_span_Span_near := rfl
theorem F_span_Span_empty : F n_span_Span_empty = some c_span_Span_empty := rfl
theorem F_span_Of_1 : F n_span_Of_1 = some c_span_Of_1 := rfl
theorem F_cmp_Compare_int : F n_cmp_Compare_int = some c_cmp_Compare_int := rfl
theorem F_cmp_isNaN_int : F n_cmp_isNaN_int = some c_cmp_isNaN_int := rfl
end Am
end Go.Proofs.YtcndgnddipbbgaaGreat
