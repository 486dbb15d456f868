/-
  THE FUNCTIONS' FORM IS TIED TO THE PROGRAM (printed by wip/am/Print2.lean).
  Conditions: none.
-/
import Derived.Test.YtcndgnddipbbgaaGreatFns
import Derived.Test.YtcndgnddipbbgaaGreatAm12
import Derived.Test.YtcndgnddipbbgaaGreatChecked
import Derived.KernelRfl
set_option maxRecDepth 100000
namespace Go.Proofs.YtcndgnddipbbgaaGreat
namespace Am
theorem t_law18_LinkConfigs : (Tryz.prog.funcs[3]?).bind (trF Tryz.prog G) = some c_law18_LinkConfigs := by rw [Tryz.func3]; kernel_rfl
theorem t_law18_awake : (Tryz.prog.funcs[4]?).bind (trF Tryz.prog G) = some c_law18_awake := by rw [Tryz.func4]; kernel_rfl
theorem t_law18_LinkConfigs_1 : (Tryz.prog.funcs[5]?).bind (trF Tryz.prog G) = some c_law18_LinkConfigs_1 := by rw [Tryz.func5]; kernel_rfl
theorem t_link_New : (Tryz.prog.funcs[6]?).bind (trF Tryz.prog G) = some c_link_New := by rw [Tryz.func6]; kernel_rfl
theorem t_law18_Config_Own : (Tryz.prog.funcs[7]?).bind (trF Tryz.prog G) = some c_law18_Config_Own := by rw [Tryz.func7]; kernel_rfl
theorem t_ref16_Check : (Tryz.prog.funcs[8]?).bind (trF Tryz.prog G) = some c_ref16_Check := by rw [Tryz.func8]; kernel_rfl
theorem t_link_Config_Check : (Tryz.prog.funcs[9]?).bind (trF Tryz.prog G) = some c_link_Config_Check := by rw [Tryz.func9]; kernel_rfl
theorem t_law18_Start : (Tryz.prog.funcs[10]?).bind (trF Tryz.prog G) = some c_law18_Start := by rw [Tryz.func10]; kernel_rfl
theorem t_link_Link_Quiet : (Tryz.prog.funcs[11]?).bind (trF Tryz.prog G) = some c_link_Link_Quiet := by rw [Tryz.func11]; kernel_rfl
theorem t_link_Link_Request : (Tryz.prog.funcs[12]?).bind (trF Tryz.prog G) = some c_link_Link_Request := by rw [Tryz.func12]; kernel_rfl
theorem t_link_Link_Pipe : (Tryz.prog.funcs[13]?).bind (trF Tryz.prog G) = some c_link_Link_Pipe := by rw [Tryz.func13]; kernel_rfl
theorem t_ring_Ring_string_Len : (Tryz.prog.funcs[14]?).bind (trF Tryz.prog G) = some c_ring_Ring_string_Len := by rw [Tryz.func14]; kernel_rfl
theorem t_link_Link_Node : (Tryz.prog.funcs[15]?).bind (trF Tryz.prog G) = some c_link_Link_Node := by rw [Tryz.func15]; kernel_rfl
theorem t_wire_New : (Tryz.prog.funcs[16]?).bind (trF Tryz.prog G) = some c_wire_New := by rw [Tryz.func16]; kernel_rfl
theorem t_node_New : (Tryz.prog.funcs[17]?).bind (trF Tryz.prog G) = some c_node_New := by rw [Tryz.func17]; kernel_rfl
theorem t_pipe_New : (Tryz.prog.funcs[18]?).bind (trF Tryz.prog G) = some c_pipe_New := by rw [Tryz.func18]; kernel_rfl
theorem t_law16_Own : (Tryz.prog.funcs[19]?).bind (trF Tryz.prog G) = some c_law16_Own := by rw [Tryz.func19]; kernel_rfl
theorem t_ref15_Check : (Tryz.prog.funcs[20]?).bind (trF Tryz.prog G) = some c_ref15_Check := by rw [Tryz.func20]; kernel_rfl
theorem t_node_Config_Check : (Tryz.prog.funcs[21]?).bind (trF Tryz.prog G) = some c_node_Config_Check := by rw [Tryz.func21]; kernel_rfl
theorem t_law18_Config_Right : (Tryz.prog.funcs[22]?).bind (trF Tryz.prog G) = some c_law18_Config_Right := by rw [Tryz.func22]; kernel_rfl
theorem t_ref18_New : (Tryz.prog.funcs[23]?).bind (trF Tryz.prog G) = some c_ref18_New := by rw [Tryz.func23]; kernel_rfl
theorem t_node_Node_Quiet : (Tryz.prog.funcs[24]?).bind (trF Tryz.prog G) = some c_node_Node_Quiet := by rw [Tryz.func24]; kernel_rfl
theorem t_link_is : (Tryz.prog.funcs[25]?).bind (trF Tryz.prog G) = some c_link_is := by rw [Tryz.func25]; kernel_rfl
theorem t_node_Node_Request : (Tryz.prog.funcs[26]?).bind (trF Tryz.prog G) = some c_node_Node_Request := by rw [Tryz.func26]; kernel_rfl
theorem t_link_Link_pump : (Tryz.prog.funcs[27]?).bind (trF Tryz.prog G) = some c_link_Link_pump := by rw [Tryz.func27]; kernel_rfl
theorem t_link_told : (Tryz.prog.funcs[28]?).bind (trF Tryz.prog G) = some c_link_told := by rw [Tryz.func28]; kernel_rfl
theorem t_crc_Make : (Tryz.prog.funcs[29]?).bind (trF Tryz.prog G) = some c_crc_Make := by rw [Tryz.func29]; kernel_rfl
theorem t_pace_New : (Tryz.prog.funcs[30]?).bind (trF Tryz.prog G) = some c_pace_New := by rw [Tryz.func30]; kernel_rfl
theorem t_conn_New : (Tryz.prog.funcs[31]?).bind (trF Tryz.prog G) = some c_conn_New := by rw [Tryz.func31]; kernel_rfl
theorem t_seq_Num_Add : (Tryz.prog.funcs[32]?).bind (trF Tryz.prog G) = some c_seq_Num_Add := by rw [Tryz.func32]; kernel_rfl
theorem t_ring_New_pdu_PDU : (Tryz.prog.funcs[33]?).bind (trF Tryz.prog G) = some c_ring_New_pdu_PDU := by rw [Tryz.func33]; kernel_rfl
theorem t_ring_New_string : (Tryz.prog.funcs[34]?).bind (trF Tryz.prog G) = some c_ring_New_string := by rw [Tryz.func34]; kernel_rfl
theorem t_seq_Of : (Tryz.prog.funcs[35]?).bind (trF Tryz.prog G) = some c_seq_Of := by rw [Tryz.func35]; kernel_rfl
theorem t_law15_Own : (Tryz.prog.funcs[36]?).bind (trF Tryz.prog G) = some c_law15_Own := by rw [Tryz.func36]; kernel_rfl
theorem t_node_Config_Check_1 : (Tryz.prog.funcs[37]?).bind (trF Tryz.prog G) = some c_node_Config_Check_1 := by rw [Tryz.func37]; kernel_rfl
theorem t_seq_Num_Low : (Tryz.prog.funcs[38]?).bind (trF Tryz.prog G) = some c_seq_Num_Low := by rw [Tryz.func38]; kernel_rfl
theorem t_pace_Config_Check : (Tryz.prog.funcs[39]?).bind (trF Tryz.prog G) = some c_pace_Config_Check := by rw [Tryz.func39]; kernel_rfl
theorem t_law16_Right : (Tryz.prog.funcs[40]?).bind (trF Tryz.prog G) = some c_law16_Right := by rw [Tryz.func40]; kernel_rfl
theorem t_ref16_New : (Tryz.prog.funcs[41]?).bind (trF Tryz.prog G) = some c_ref16_New := by rw [Tryz.func41]; kernel_rfl
theorem t_ring_Ring_pdu_PDU_Len : (Tryz.prog.funcs[42]?).bind (trF Tryz.prog G) = some c_ring_Ring_pdu_PDU_Len := by rw [Tryz.func42]; kernel_rfl
theorem t_node_Node_ready : (Tryz.prog.funcs[43]?).bind (trF Tryz.prog G) = some c_node_Node_ready := by rw [Tryz.func43]; kernel_rfl
theorem t_node_Node_idle : (Tryz.prog.funcs[44]?).bind (trF Tryz.prog G) = some c_node_Node_idle := by rw [Tryz.func44]; kernel_rfl
theorem t_recv_Recv_Vars : (Tryz.prog.funcs[45]?).bind (trF Tryz.prog G) = some c_recv_Recv_Vars := by rw [Tryz.func45]; kernel_rfl
theorem t_event_Request_Check : (Tryz.prog.funcs[46]?).bind (trF Tryz.prog G) = some c_event_Request_Check := by rw [Tryz.func46]; kernel_rfl
theorem t_rules_May : (Tryz.prog.funcs[47]?).bind (trF Tryz.prog G) = some c_rules_May := by rw [Tryz.func47]; kernel_rfl
theorem t_conn_Conn_Vars : (Tryz.prog.funcs[48]?).bind (trF Tryz.prog G) = some c_conn_Conn_Vars := by rw [Tryz.func48]; kernel_rfl
theorem t_node_Node_ask : (Tryz.prog.funcs[49]?).bind (trF Tryz.prog G) = some c_node_Node_ask := by rw [Tryz.func49]; kernel_rfl
theorem t_node_Node_credit : (Tryz.prog.funcs[50]?).bind (trF Tryz.prog G) = some c_node_Node_credit := by rw [Tryz.func50]; kernel_rfl
theorem t_ring_Ring_string_Room : (Tryz.prog.funcs[51]?).bind (trF Tryz.prog G) = some c_ring_Ring_string_Room := by rw [Tryz.func51]; kernel_rfl
theorem t_node_Node_Next : (Tryz.prog.funcs[52]?).bind (trF Tryz.prog G) = some c_node_Node_Next := by rw [Tryz.func52]; kernel_rfl
theorem t_wire_Wire_Pack : (Tryz.prog.funcs[53]?).bind (trF Tryz.prog G) = some c_wire_Wire_Pack := by rw [Tryz.func53]; kernel_rfl
theorem t_pipe_Pipe_Put : (Tryz.prog.funcs[54]?).bind (trF Tryz.prog G) = some c_pipe_Pipe_Put := by rw [Tryz.func54]; kernel_rfl
theorem t_law16_Right_1 : (Tryz.prog.funcs[55]?).bind (trF Tryz.prog G) = some c_law16_Right_1 := by rw [Tryz.func55]; kernel_rfl
theorem t_ref01_Of : (Tryz.prog.funcs[56]?).bind (trF Tryz.prog G) = some c_ref01_Of := by rw [Tryz.func56]; kernel_rfl
theorem t_law15_Right : (Tryz.prog.funcs[57]?).bind (trF Tryz.prog G) = some c_law15_Right := by rw [Tryz.func57]; kernel_rfl
theorem t_ref14_New : (Tryz.prog.funcs[58]?).bind (trF Tryz.prog G) = some c_ref14_New := by rw [Tryz.func58]; kernel_rfl
theorem t_ref15_New : (Tryz.prog.funcs[59]?).bind (trF Tryz.prog G) = some c_ref15_New := by rw [Tryz.func59]; kernel_rfl
theorem t_send_Send_Idle : (Tryz.prog.funcs[60]?).bind (trF Tryz.prog G) = some c_send_Send_Idle := by rw [Tryz.func60]; kernel_rfl
theorem t_rules_requests : (Tryz.prog.funcs[61]?).bind (trF Tryz.prog G) = some c_rules_requests := by rw [Tryz.func61]; kernel_rfl
theorem t_send_Send_Put : (Tryz.prog.funcs[62]?).bind (trF Tryz.prog G) = some c_send_Send_Put := by rw [Tryz.func62]; kernel_rfl
theorem t_pace_Pace_Busy : (Tryz.prog.funcs[63]?).bind (trF Tryz.prog G) = some c_pace_Pace_Busy := by rw [Tryz.func63]; kernel_rfl
theorem t_ring_Ring_pdu_PDU_Put : (Tryz.prog.funcs[64]?).bind (trF Tryz.prog G) = some c_ring_Ring_pdu_PDU_Put := by rw [Tryz.func64]; kernel_rfl
theorem t_recv_Recv_Take : (Tryz.prog.funcs[65]?).bind (trF Tryz.prog G) = some c_recv_Recv_Take := by rw [Tryz.func65]; kernel_rfl
theorem t_conn_Conn_Request : (Tryz.prog.funcs[66]?).bind (trF Tryz.prog G) = some c_conn_Conn_Request := by rw [Tryz.func66]; kernel_rfl
theorem t_node_Node_bring : (Tryz.prog.funcs[67]?).bind (trF Tryz.prog G) = some c_node_Node_bring := by rw [Tryz.func67]; kernel_rfl
theorem t_send_Send_Lacks : (Tryz.prog.funcs[68]?).bind (trF Tryz.prog G) = some c_send_Send_Lacks := by rw [Tryz.func68]; kernel_rfl
theorem t_node_report : (Tryz.prog.funcs[69]?).bind (trF Tryz.prog G) = some c_node_report := by rw [Tryz.func69]; kernel_rfl
theorem t_slices_Clone_Lpdu_PDU_pdu_PDU : (Tryz.prog.funcs[70]?).bind (trF Tryz.prog G) = some c_slices_Clone_Lpdu_PDU_pdu_PDU := by rw [Tryz.func70]; kernel_rfl
theorem t_ring_Ring_pdu_PDU_Take : (Tryz.prog.funcs[71]?).bind (trF Tryz.prog G) = some c_ring_Ring_pdu_PDU_Take := by rw [Tryz.func71]; kernel_rfl
theorem t_recv_Recv_Stat : (Tryz.prog.funcs[72]?).bind (trF Tryz.prog G) = some c_recv_Recv_Stat := by rw [Tryz.func72]; kernel_rfl
theorem t_recv_Recv_Gap : (Tryz.prog.funcs[73]?).bind (trF Tryz.prog G) = some c_recv_Recv_Gap := by rw [Tryz.func73]; kernel_rfl
theorem t_send_Send_Due : (Tryz.prog.funcs[74]?).bind (trF Tryz.prog G) = some c_send_Send_Due := by rw [Tryz.func74]; kernel_rfl
theorem t_send_Send_Poll : (Tryz.prog.funcs[75]?).bind (trF Tryz.prog G) = some c_send_Send_Poll := by rw [Tryz.func75]; kernel_rfl
theorem t_pace_Pace_Polled : (Tryz.prog.funcs[76]?).bind (trF Tryz.prog G) = some c_pace_Pace_Polled := by rw [Tryz.func76]; kernel_rfl
theorem t_send_Send_Next : (Tryz.prog.funcs[77]?).bind (trF Tryz.prog G) = some c_send_Send_Next := by rw [Tryz.func77]; kernel_rfl
theorem t_pdu_PDU_Check : (Tryz.prog.funcs[78]?).bind (trF Tryz.prog G) = some c_pdu_PDU_Check := by rw [Tryz.func78]; kernel_rfl
theorem t_pdu_PDU_Bytes : (Tryz.prog.funcs[79]?).bind (trF Tryz.prog G) = some c_pdu_PDU_Bytes := by rw [Tryz.func79]; kernel_rfl
theorem t_frame_Frame_Bytes : (Tryz.prog.funcs[80]?).bind (trF Tryz.prog G) = some c_frame_Frame_Bytes := by rw [Tryz.func80]; kernel_rfl
theorem t_ring_Ring_string_Put : (Tryz.prog.funcs[81]?).bind (trF Tryz.prog G) = some c_ring_Ring_string_Put := by rw [Tryz.func81]; kernel_rfl
theorem t_rules_row : (Tryz.prog.funcs[82]?).bind (trF Tryz.prog G) = some c_rules_row := by rw [Tryz.func82]; kernel_rfl
theorem t_timer_Bank_Runs : (Tryz.prog.funcs[83]?).bind (trF Tryz.prog G) = some c_timer_Bank_Runs := by rw [Tryz.func83]; kernel_rfl
theorem t_pace_Pace_stop : (Tryz.prog.funcs[84]?).bind (trF Tryz.prog G) = some c_pace_Pace_stop := by rw [Tryz.func84]; kernel_rfl
theorem t_timer_Bank_Start : (Tryz.prog.funcs[85]?).bind (trF Tryz.prog G) = some c_timer_Bank_Start := by rw [Tryz.func85]; kernel_rfl
theorem t_pace_Pace_watch : (Tryz.prog.funcs[86]?).bind (trF Tryz.prog G) = some c_pace_Pace_watch := by rw [Tryz.func86]; kernel_rfl
theorem t_ring_Ring_pdu_PDU_Room : (Tryz.prog.funcs[87]?).bind (trF Tryz.prog G) = some c_ring_Ring_pdu_PDU_Room := by rw [Tryz.func87]; kernel_rfl
theorem t_ring_Ring_pdu_PDU_grow : (Tryz.prog.funcs[88]?).bind (trF Tryz.prog G) = some c_ring_Ring_pdu_PDU_grow := by rw [Tryz.func88]; kernel_rfl
theorem t_ring_Ring_pdu_PDU_place : (Tryz.prog.funcs[89]?).bind (trF Tryz.prog G) = some c_ring_Ring_pdu_PDU_place := by rw [Tryz.func89]; kernel_rfl
theorem t_slices_Clone_Lstring_string : (Tryz.prog.funcs[90]?).bind (trF Tryz.prog G) = some c_slices_Clone_Lstring_string := by rw [Tryz.func90]; kernel_rfl
theorem t_conn_Conn_done : (Tryz.prog.funcs[91]?).bind (trF Tryz.prog G) = some c_conn_Conn_done := by rw [Tryz.func91]; kernel_rfl
theorem t_conn_Conn_Request_1 : (Tryz.prog.funcs[92]?).bind (trF Tryz.prog G) = some c_conn_Conn_Request_1 := by rw [Tryz.func92]; kernel_rfl
theorem t_conn_act_ask : (Tryz.prog.funcs[93]?).bind (trF Tryz.prog G) = some c_conn_act_ask := by rw [Tryz.func93]; kernel_rfl
theorem t_slices_DeleteFunc_Lpdu_PDU_pdu_PDU : (Tryz.prog.funcs[94]?).bind (trF Tryz.prog G) = some c_slices_DeleteFunc_Lpdu_PDU_pdu_PDU := by rw [Tryz.func94]; kernel_rfl
theorem t_node_Node_bring_1 : (Tryz.prog.funcs[95]?).bind (trF Tryz.prog G) = some c_node_Node_bring_1 := by rw [Tryz.func95]; kernel_rfl
theorem t_pace_Pace_Again : (Tryz.prog.funcs[96]?).bind (trF Tryz.prog G) = some c_pace_Pace_Again := by rw [Tryz.func96]; kernel_rfl
theorem t_pace_Pace_Enough : (Tryz.prog.funcs[97]?).bind (trF Tryz.prog G) = some c_pace_Pace_Enough := by rw [Tryz.func97]; kernel_rfl
theorem t_pace_Pace_End : (Tryz.prog.funcs[98]?).bind (trF Tryz.prog G) = some c_pace_Pace_End := by rw [Tryz.func98]; kernel_rfl
theorem t_send_Send_Left : (Tryz.prog.funcs[99]?).bind (trF Tryz.prog G) = some c_send_Send_Left := by rw [Tryz.func99]; kernel_rfl
theorem t_node_Node_over : (Tryz.prog.funcs[100]?).bind (trF Tryz.prog G) = some c_node_Node_over := by rw [Tryz.func100]; kernel_rfl
theorem t_send_New : (Tryz.prog.funcs[101]?).bind (trF Tryz.prog G) = some c_send_New := by rw [Tryz.func101]; kernel_rfl
theorem t_recv_New : (Tryz.prog.funcs[102]?).bind (trF Tryz.prog G) = some c_recv_New := by rw [Tryz.func102]; kernel_rfl
theorem t_send_Send_Open : (Tryz.prog.funcs[103]?).bind (trF Tryz.prog G) = some c_send_Send_Open := by rw [Tryz.func103]; kernel_rfl
theorem t_pace_Pace_Begin : (Tryz.prog.funcs[104]?).bind (trF Tryz.prog G) = some c_pace_Pace_Begin := by rw [Tryz.func104]; kernel_rfl
theorem t_ring_Ring_pdu_PDU_First : (Tryz.prog.funcs[105]?).bind (trF Tryz.prog G) = some c_ring_Ring_pdu_PDU_First := by rw [Tryz.func105]; kernel_rfl
theorem t_recv_Recv_renew : (Tryz.prog.funcs[106]?).bind (trF Tryz.prog G) = some c_recv_Recv_renew := by rw [Tryz.func106]; kernel_rfl
theorem t_gaps_List : (Tryz.prog.funcs[107]?).bind (trF Tryz.prog G) = some c_gaps_List := by rw [Tryz.func107]; kernel_rfl
theorem t_recv_Recv_still : (Tryz.prog.funcs[109]?).bind (trF Tryz.prog G) = some c_recv_Recv_still := by rw [Tryz.func109]; kernel_rfl
theorem t_send_Send_out : (Tryz.prog.funcs[110]?).bind (trF Tryz.prog G) = some c_send_Send_out := by rw [Tryz.func110]; kernel_rfl
theorem t_ring_Ring_string_Take : (Tryz.prog.funcs[111]?).bind (trF Tryz.prog G) = some c_ring_Ring_string_Take := by rw [Tryz.func111]; kernel_rfl
theorem t_pdu_shapeOf : (Tryz.prog.funcs[112]?).bind (trF Tryz.prog G) = some c_pdu_shapeOf := by rw [Tryz.func112]; kernel_rfl
theorem t_pdu_low : (Tryz.prog.funcs[113]?).bind (trF Tryz.prog G) = some c_pdu_low := by rw [Tryz.func113]; kernel_rfl
theorem t_slices_ContainsFunc_Lseq_Num_seq_Num : (Tryz.prog.funcs[114]?).bind (trF Tryz.prog G) = some c_slices_ContainsFunc_Lseq_Num_seq_Num := by rw [Tryz.func114]; kernel_rfl
theorem t_pdu_PDU_Check_1 : (Tryz.prog.funcs[115]?).bind (trF Tryz.prog G) = some c_pdu_PDU_Check_1 := by rw [Tryz.func115]; kernel_rfl
theorem t_strings_Builder_WriteString : (Tryz.prog.funcs[116]?).bind (trF Tryz.prog G) = some c_strings_Builder_WriteString := by rw [Tryz.func116]; kernel_rfl
theorem t_pdu_PDU_words : (Tryz.prog.funcs[118]?).bind (trF Tryz.prog G) = some c_pdu_PDU_words := by rw [Tryz.func118]; kernel_rfl
theorem t_pdu_four : (Tryz.prog.funcs[119]?).bind (trF Tryz.prog G) = some c_pdu_four := by rw [Tryz.func119]; kernel_rfl
theorem t_pdu_bit : (Tryz.prog.funcs[120]?).bind (trF Tryz.prog G) = some c_pdu_bit := by rw [Tryz.func120]; kernel_rfl
theorem t_frame_Cells : (Tryz.prog.funcs[122]?).bind (trF Tryz.prog G) = some c_frame_Cells := by rw [Tryz.func122]; kernel_rfl
theorem t_crc_Table_Seal : (Tryz.prog.funcs[123]?).bind (trF Tryz.prog G) = some c_crc_Table_Seal := by rw [Tryz.func123]; kernel_rfl
theorem t_ring_Ring_string_grow : (Tryz.prog.funcs[124]?).bind (trF Tryz.prog G) = some c_ring_Ring_string_grow := by rw [Tryz.func124]; kernel_rfl
theorem t_ring_Ring_string_place : (Tryz.prog.funcs[125]?).bind (trF Tryz.prog G) = some c_ring_Ring_string_place := by rw [Tryz.func125]; kernel_rfl
theorem t_timer_Bank_Left : (Tryz.prog.funcs[126]?).bind (trF Tryz.prog G) = some c_timer_Bank_Left := by rw [Tryz.func126]; kernel_rfl
theorem t_timer_Bank_Stop : (Tryz.prog.funcs[127]?).bind (trF Tryz.prog G) = some c_timer_Bank_Stop := by rw [Tryz.func127]; kernel_rfl
theorem t_timer_is : (Tryz.prog.funcs[128]?).bind (trF Tryz.prog G) = some c_timer_is := by rw [Tryz.func128]; kernel_rfl
theorem t_ring_Ring_pdu_PDU_All : (Tryz.prog.funcs[129]?).bind (trF Tryz.prog G) = some c_ring_Ring_pdu_PDU_All := by rw [Tryz.func129]; kernel_rfl
theorem t_conn_act_begin : (Tryz.prog.funcs[130]?).bind (trF Tryz.prog G) = some c_conn_act_begin := by rw [Tryz.func130]; kernel_rfl
theorem t_conn_act_out : (Tryz.prog.funcs[131]?).bind (trF Tryz.prog G) = some c_conn_act_out := by rw [Tryz.func131]; kernel_rfl
theorem t_conn_act_ready : (Tryz.prog.funcs[132]?).bind (trF Tryz.prog G) = some c_conn_act_ready := by rw [Tryz.func132]; kernel_rfl
theorem t_conn_act_to : (Tryz.prog.funcs[133]?).bind (trF Tryz.prog G) = some c_conn_act_to := by rw [Tryz.func133]; kernel_rfl
theorem t_conn_act_leave : (Tryz.prog.funcs[134]?).bind (trF Tryz.prog G) = some c_conn_act_leave := by rw [Tryz.func134]; kernel_rfl
theorem t_slices_IndexFunc_Lpdu_PDU_pdu_PDU : (Tryz.prog.funcs[135]?).bind (trF Tryz.prog G) = some c_slices_IndexFunc_Lpdu_PDU_pdu_PDU := by rw [Tryz.func135]; kernel_rfl
theorem t_ring_Ring_string_All : (Tryz.prog.funcs[136]?).bind (trF Tryz.prog G) = some c_ring_Ring_string_All := by rw [Tryz.func136]; kernel_rfl
theorem t_send_New_1 : (Tryz.prog.funcs[137]?).bind (trF Tryz.prog G) = some c_send_New_1 := by rw [Tryz.func137]; kernel_rfl
theorem t_seq_Num_To : (Tryz.prog.funcs[138]?).bind (trF Tryz.prog G) = some c_seq_Num_To := by rw [Tryz.func138]; kernel_rfl
theorem t_seq_Max : (Tryz.prog.funcs[139]?).bind (trF Tryz.prog G) = some c_seq_Max := by rw [Tryz.func139]; kernel_rfl
theorem t_span_Set_Both : (Tryz.prog.funcs[140]?).bind (trF Tryz.prog G) = some c_span_Set_Both := by rw [Tryz.func140]; kernel_rfl
theorem t_span_Of : (Tryz.prog.funcs[141]?).bind (trF Tryz.prog G) = some c_span_Of := by rw [Tryz.func141]; kernel_rfl
theorem t_ring_Ring_string_First : (Tryz.prog.funcs[143]?).bind (trF Tryz.prog G) = some c_ring_Ring_string_First := by rw [Tryz.func143]; kernel_rfl
theorem t_slices_IndexFunc_Lseq_Num_seq_Num : (Tryz.prog.funcs[144]?).bind (trF Tryz.prog G) = some c_slices_IndexFunc_Lseq_Num_seq_Num := by rw [Tryz.func144]; kernel_rfl
theorem t_crc_four : (Tryz.prog.funcs[150]?).bind (trF Tryz.prog G) = some c_crc_four := by rw [Tryz.func150]; kernel_rfl
theorem t_crc_Table_Sum : (Tryz.prog.funcs[151]?).bind (trF Tryz.prog G) = some c_crc_Table_Sum := by rw [Tryz.func151]; kernel_rfl
theorem t_conn_act_again : (Tryz.prog.funcs[152]?).bind (trF Tryz.prog G) = some c_conn_act_again := by rw [Tryz.func152]; kernel_rfl
theorem t_conn_act_stop : (Tryz.prog.funcs[153]?).bind (trF Tryz.prog G) = some c_conn_act_stop := by rw [Tryz.func153]; kernel_rfl
theorem t_span_Span_near : (Tryz.prog.funcs[154]?).bind (trF Tryz.prog G) = some c_span_Span_near := by rw [Tryz.func154]; kernel_rfl
theorem t_span_Span_empty : (Tryz.prog.funcs[155]?).bind (trF Tryz.prog G) = some c_span_Span_empty := by rw [Tryz.func155]; kernel_rfl
theorem t_span_Of_1 : (Tryz.prog.funcs[157]?).bind (trF Tryz.prog G) = some c_span_Of_1 := by rw [Tryz.func157]; kernel_rfl
theorem t_cmp_Compare_int : (Tryz.prog.funcs[158]?).bind (trF Tryz.prog G) = some c_cmp_Compare_int := by rw [Tryz.func158]; kernel_rfl
theorem t_cmp_isNaN_int : (Tryz.prog.funcs[166]?).bind (trF Tryz.prog G) = some c_cmp_isNaN_int := by rw [Tryz.func166]; kernel_rfl
theorem tF : ∀ f c, F f = some c → (Tryz.prog.funcs[f]?).bind (trF Tryz.prog G) = some c := by
  intro f c h
  unfold F at h
  split at h
  · exact t_law18_LinkConfigs.trans h
  · exact t_law18_awake.trans h
  · exact t_law18_LinkConfigs_1.trans h
  · exact t_link_New.trans h
  · exact t_law18_Config_Own.trans h
  · exact t_ref16_Check.trans h
  · exact t_link_Config_Check.trans h
  · exact t_law18_Start.trans h
  · exact t_link_Link_Quiet.trans h
  · exact t_link_Link_Request.trans h
  · exact t_link_Link_Pipe.trans h
  · exact t_ring_Ring_string_Len.trans h
  · exact t_link_Link_Node.trans h
  · exact t_wire_New.trans h
  · exact t_node_New.trans h
  · exact t_pipe_New.trans h
  · exact t_law16_Own.trans h
  · exact t_ref15_Check.trans h
  · exact t_node_Config_Check.trans h
  · exact t_law18_Config_Right.trans h
  · exact t_ref18_New.trans h
  · exact t_node_Node_Quiet.trans h
  · exact t_link_is.trans h
  · exact t_node_Node_Request.trans h
  · exact t_link_Link_pump.trans h
  · exact t_link_told.trans h
  · exact t_crc_Make.trans h
  · exact t_pace_New.trans h
  · exact t_conn_New.trans h
  · exact t_seq_Num_Add.trans h
  · exact t_ring_New_pdu_PDU.trans h
  · exact t_ring_New_string.trans h
  · exact t_seq_Of.trans h
  · exact t_law15_Own.trans h
  · exact t_node_Config_Check_1.trans h
  · exact t_seq_Num_Low.trans h
  · exact t_pace_Config_Check.trans h
  · exact t_law16_Right.trans h
  · exact t_ref16_New.trans h
  · exact t_ring_Ring_pdu_PDU_Len.trans h
  · exact t_node_Node_ready.trans h
  · exact t_node_Node_idle.trans h
  · exact t_recv_Recv_Vars.trans h
  · exact t_event_Request_Check.trans h
  · exact t_rules_May.trans h
  · exact t_conn_Conn_Vars.trans h
  · exact t_node_Node_ask.trans h
  · exact t_node_Node_credit.trans h
  · exact t_ring_Ring_string_Room.trans h
  · exact t_node_Node_Next.trans h
  · exact t_wire_Wire_Pack.trans h
  · exact t_pipe_Pipe_Put.trans h
  · exact t_law16_Right_1.trans h
  · exact t_ref01_Of.trans h
  · exact t_law15_Right.trans h
  · exact t_ref14_New.trans h
  · exact t_ref15_New.trans h
  · exact t_send_Send_Idle.trans h
  · exact t_rules_requests.trans h
  · exact t_send_Send_Put.trans h
  · exact t_pace_Pace_Busy.trans h
  · exact t_ring_Ring_pdu_PDU_Put.trans h
  · exact t_recv_Recv_Take.trans h
  · exact t_conn_Conn_Request.trans h
  · exact t_node_Node_bring.trans h
  · exact t_send_Send_Lacks.trans h
  · exact t_node_report.trans h
  · exact t_slices_Clone_Lpdu_PDU_pdu_PDU.trans h
  · exact t_ring_Ring_pdu_PDU_Take.trans h
  · exact t_recv_Recv_Stat.trans h
  · exact t_recv_Recv_Gap.trans h
  · exact t_send_Send_Due.trans h
  · exact t_send_Send_Poll.trans h
  · exact t_pace_Pace_Polled.trans h
  · exact t_send_Send_Next.trans h
  · exact t_pdu_PDU_Check.trans h
  · exact t_pdu_PDU_Bytes.trans h
  · exact t_frame_Frame_Bytes.trans h
  · exact t_ring_Ring_string_Put.trans h
  · exact t_rules_row.trans h
  · exact t_timer_Bank_Runs.trans h
  · exact t_pace_Pace_stop.trans h
  · exact t_timer_Bank_Start.trans h
  · exact t_pace_Pace_watch.trans h
  · exact t_ring_Ring_pdu_PDU_Room.trans h
  · exact t_ring_Ring_pdu_PDU_grow.trans h
  · exact t_ring_Ring_pdu_PDU_place.trans h
  · exact t_slices_Clone_Lstring_string.trans h
  · exact t_conn_Conn_done.trans h
  · exact t_conn_Conn_Request_1.trans h
  · exact t_conn_act_ask.trans h
  · exact t_slices_DeleteFunc_Lpdu_PDU_pdu_PDU.trans h
  · exact t_node_Node_bring_1.trans h
  · exact t_pace_Pace_Again.trans h
  · exact t_pace_Pace_Enough.trans h
  · exact t_pace_Pace_End.trans h
  · exact t_send_Send_Left.trans h
  · exact t_node_Node_over.trans h
  · exact t_send_New.trans h
  · exact t_recv_New.trans h
  · exact t_send_Send_Open.trans h
  · exact t_pace_Pace_Begin.trans h
  · exact t_ring_Ring_pdu_PDU_First.trans h
  · exact t_recv_Recv_renew.trans h
  · exact t_gaps_List.trans h
  · exact t_recv_Recv_still.trans h
  · exact t_send_Send_out.trans h
  · exact t_ring_Ring_string_Take.trans h
  · exact t_pdu_shapeOf.trans h
  · exact t_pdu_low.trans h
  · exact t_slices_ContainsFunc_Lseq_Num_seq_Num.trans h
  · exact t_pdu_PDU_Check_1.trans h
  · exact t_strings_Builder_WriteString.trans h
  · exact t_pdu_PDU_words.trans h
  · exact t_pdu_four.trans h
  · exact t_pdu_bit.trans h
  · exact t_frame_Cells.trans h
  · exact t_crc_Table_Seal.trans h
  · exact t_ring_Ring_string_grow.trans h
  · exact t_ring_Ring_string_place.trans h
  · exact t_timer_Bank_Left.trans h
  · exact t_timer_Bank_Stop.trans h
  · exact t_timer_is.trans h
  · exact t_ring_Ring_pdu_PDU_All.trans h
  · exact t_conn_act_begin.trans h
  · exact t_conn_act_out.trans h
  · exact t_conn_act_ready.trans h
  · exact t_conn_act_to.trans h
  · exact t_conn_act_leave.trans h
  · exact t_slices_IndexFunc_Lpdu_PDU_pdu_PDU.trans h
  · exact t_ring_Ring_string_All.trans h
  · exact t_send_New_1.trans h
  · exact t_seq_Num_To.trans h
  · exact t_seq_Max.trans h
  · exact t_span_Set_Both.trans h
  · exact t_span_Of.trans h
  · exact t_ring_Ring_string_First.trans h
  · exact t_slices_IndexFunc_Lseq_Num_seq_Num.trans h
  · exact t_crc_four.trans h
  · exact t_crc_Table_Sum.trans h
  · exact t_conn_act_again.trans h
  · exact t_conn_act_stop.trans h
  · exact t_span_Span_near.trans h
  · exact t_span_Span_empty.trans h
  · exact t_span_Of_1.trans h
  · exact t_cmp_Compare_int.trans h
  · exact t_cmp_isNaN_int.trans h
  · cases h
end Am
end Go.Proofs.YtcndgnddipbbgaaGreat
