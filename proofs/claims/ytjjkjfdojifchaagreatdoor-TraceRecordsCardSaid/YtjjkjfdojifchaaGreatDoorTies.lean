/-
  THE FUNCTIONS' FORM IS TIED TO THE PROGRAM (printed by wip/am/Print2.lean).
  Conditions: none.
-/
import Derived.Test.YtjjkjfdojifchaaGreatDoorFns
import Derived.Test.YtjjkjfdojifchaaGreatDoorAm12
import Derived.Test.YtjjkjfdojifchaaGreatDoorChecked
import Derived.KernelRfl
set_option maxRecDepth 100000
namespace Go.Proofs.YtjjkjfdojifchaaGreatDoor
namespace Am
theorem t_law19_TraceBack : (Tryz.prog.funcs[3]?).bind (trF Tryz.prog G) = some c_law19_TraceBack := by rw [Tryz.func3]; kernel_rfl
theorem t_law19_TraceRecords : (Tryz.prog.funcs[4]?).bind (trF Tryz.prog G) = some c_law19_TraceRecords := by rw [Tryz.func4]; kernel_rfl
theorem t_law19_awake : (Tryz.prog.funcs[5]?).bind (trF Tryz.prog G) = some c_law19_awake := by rw [Tryz.func5]; kernel_rfl
theorem t_law06_Few : (Tryz.prog.funcs[6]?).bind (trF Tryz.prog G) = some c_law06_Few := by rw [Tryz.func6]; kernel_rfl
theorem t_law06_Own : (Tryz.prog.funcs[7]?).bind (trF Tryz.prog G) = some c_law06_Own := by rw [Tryz.func7]; kernel_rfl
theorem t_trace_Unit : (Tryz.prog.funcs[8]?).bind (trF Tryz.prog G) = some c_trace_Unit := by rw [Tryz.func8]; kernel_rfl
theorem t_ref19_Unit : (Tryz.prog.funcs[9]?).bind (trF Tryz.prog G) = some c_ref19_Unit := by rw [Tryz.func9]; kernel_rfl
theorem t_trace_Parse : (Tryz.prog.funcs[10]?).bind (trF Tryz.prog G) = some c_trace_Parse := by rw [Tryz.func10]; kernel_rfl
theorem t_ref06_Check : (Tryz.prog.funcs[11]?).bind (trF Tryz.prog G) = some c_ref06_Check := by rw [Tryz.func11]; kernel_rfl
theorem t_law06_Same : (Tryz.prog.funcs[12]?).bind (trF Tryz.prog G) = some c_law06_Same := by rw [Tryz.func12]; kernel_rfl
theorem t_law02_Cut : (Tryz.prog.funcs[13]?).bind (trF Tryz.prog G) = some c_law02_Cut := by rw [Tryz.func13]; kernel_rfl
theorem t_ref10_Digits : (Tryz.prog.funcs[14]?).bind (trF Tryz.prog G) = some c_ref10_Digits := by rw [Tryz.func14]; kernel_rfl
theorem t_ref10_Text : (Tryz.prog.funcs[15]?).bind (trF Tryz.prog G) = some c_ref10_Text := by rw [Tryz.func15]; kernel_rfl
theorem t_ref10_Hex : (Tryz.prog.funcs[16]?).bind (trF Tryz.prog G) = some c_ref10_Hex := by rw [Tryz.func16]; kernel_rfl
theorem t_trace_Record : (Tryz.prog.funcs[17]?).bind (trF Tryz.prog G) = some c_trace_Record := by rw [Tryz.func17]; kernel_rfl
theorem t_trace_Lines : (Tryz.prog.funcs[18]?).bind (trF Tryz.prog G) = some c_trace_Lines := by rw [Tryz.func18]; kernel_rfl
theorem t_law06_Few_1 : (Tryz.prog.funcs[19]?).bind (trF Tryz.prog G) = some c_law06_Few_1 := by rw [Tryz.func19]; kernel_rfl
theorem t_law06_num : (Tryz.prog.funcs[20]?).bind (trF Tryz.prog G) = some c_law06_num := by rw [Tryz.func20]; kernel_rfl
theorem t_pdu_PDU_Check : (Tryz.prog.funcs[21]?).bind (trF Tryz.prog G) = some c_pdu_PDU_Check := by rw [Tryz.func21]; kernel_rfl
theorem t_pdu_PDU_Name : (Tryz.prog.funcs[22]?).bind (trF Tryz.prog G) = some c_pdu_PDU_Name := by rw [Tryz.func22]; kernel_rfl
theorem t_trace_has : (Tryz.prog.funcs[23]?).bind (trF Tryz.prog G) = some c_trace_has := by rw [Tryz.func23]; kernel_rfl
theorem t_trace_list : (Tryz.prog.funcs[25]?).bind (trF Tryz.prog G) = some c_trace_list := by rw [Tryz.func25]; kernel_rfl
theorem t_event_Hex : (Tryz.prog.funcs[26]?).bind (trF Tryz.prog G) = some c_event_Hex := by rw [Tryz.func26]; kernel_rfl
theorem t_ref19_Name : (Tryz.prog.funcs[27]?).bind (trF Tryz.prog G) = some c_ref19_Name := by rw [Tryz.func27]; kernel_rfl
theorem t_ref06_HasSQ : (Tryz.prog.funcs[28]?).bind (trF Tryz.prog G) = some c_ref06_HasSQ := by rw [Tryz.func28]; kernel_rfl
theorem t_ref06_HasN : (Tryz.prog.funcs[29]?).bind (trF Tryz.prog G) = some c_ref06_HasN := by rw [Tryz.func29]; kernel_rfl
theorem t_ref06_Most : (Tryz.prog.funcs[30]?).bind (trF Tryz.prog G) = some c_ref06_Most := by rw [Tryz.func30]; kernel_rfl
theorem t_trace_kind : (Tryz.prog.funcs[32]?).bind (trF Tryz.prog G) = some c_trace_kind := by rw [Tryz.func32]; kernel_rfl
theorem t_trace_take : (Tryz.prog.funcs[33]?).bind (trF Tryz.prog G) = some c_trace_take := by rw [Tryz.func33]; kernel_rfl
theorem t_ref06_low : (Tryz.prog.funcs[34]?).bind (trF Tryz.prog G) = some c_ref06_low := by rw [Tryz.func34]; kernel_rfl
theorem t_ref06_in : (Tryz.prog.funcs[35]?).bind (trF Tryz.prog G) = some c_ref06_in := by rw [Tryz.func35]; kernel_rfl
theorem t_event_Signal_Text : (Tryz.prog.funcs[36]?).bind (trF Tryz.prog G) = some c_event_Signal_Text := by rw [Tryz.func36]; kernel_rfl
theorem t_strings_Builder_WriteString : (Tryz.prog.funcs[37]?).bind (trF Tryz.prog G) = some c_strings_Builder_WriteString := by rw [Tryz.func37]; kernel_rfl
theorem t_pdu_shapeOf : (Tryz.prog.funcs[39]?).bind (trF Tryz.prog G) = some c_pdu_shapeOf := by rw [Tryz.func39]; kernel_rfl
theorem t_pdu_low : (Tryz.prog.funcs[40]?).bind (trF Tryz.prog G) = some c_pdu_low := by rw [Tryz.func40]; kernel_rfl
theorem t_slices_ContainsFunc_Lseq_Num_seq_Num : (Tryz.prog.funcs[41]?).bind (trF Tryz.prog G) = some c_slices_ContainsFunc_Lseq_Num_seq_Num := by rw [Tryz.func41]; kernel_rfl
theorem t_pdu_PDU_Check_1 : (Tryz.prog.funcs[42]?).bind (trF Tryz.prog G) = some c_pdu_PDU_Check_1 := by rw [Tryz.func42]; kernel_rfl
theorem t_strings_Builder_WriteByte : (Tryz.prog.funcs[45]?).bind (trF Tryz.prog G) = some c_strings_Builder_WriteByte := by rw [Tryz.func45]; kernel_rfl
theorem t_trace_number : (Tryz.prog.funcs[47]?).bind (trF Tryz.prog G) = some c_trace_number := by rw [Tryz.func47]; kernel_rfl
theorem t_seq_Of : (Tryz.prog.funcs[48]?).bind (trF Tryz.prog G) = some c_seq_Of := by rw [Tryz.func48]; kernel_rfl
theorem t_trace_nums : (Tryz.prog.funcs[49]?).bind (trF Tryz.prog G) = some c_trace_nums := by rw [Tryz.func49]; kernel_rfl
theorem t_strings_CutPrefix : (Tryz.prog.funcs[50]?).bind (trF Tryz.prog G) = some c_strings_CutPrefix := by rw [Tryz.func50]; kernel_rfl
theorem t_event_Unhex : (Tryz.prog.funcs[51]?).bind (trF Tryz.prog G) = some c_event_Unhex := by rw [Tryz.func51]; kernel_rfl
theorem t_seq_Num_Low : (Tryz.prog.funcs[53]?).bind (trF Tryz.prog G) = some c_seq_Num_Low := by rw [Tryz.func53]; kernel_rfl
theorem t_slices_IndexFunc_Lseq_Num_seq_Num : (Tryz.prog.funcs[54]?).bind (trF Tryz.prog G) = some c_slices_IndexFunc_Lseq_Num_seq_Num := by rw [Tryz.func54]; kernel_rfl
theorem t_istringslite_CutPrefix : (Tryz.prog.funcs[61]?).bind (trF Tryz.prog G) = some c_istringslite_CutPrefix := by rw [Tryz.func61]; kernel_rfl
theorem t_istringslite_HasPrefix : (Tryz.prog.funcs[75]?).bind (trF Tryz.prog G) = some c_istringslite_HasPrefix := by rw [Tryz.func75]; kernel_rfl
theorem tF : ∀ f c, F f = some c → (Tryz.prog.funcs[f]?).bind (trF Tryz.prog G) = some c := by
  intro f c h
  unfold F at h
  split at h
  · exact t_law19_TraceBack.trans h
  · exact t_law19_TraceRecords.trans h
  · exact t_law19_awake.trans h
  · exact t_law06_Few.trans h
  · exact t_law06_Own.trans h
  · exact t_trace_Unit.trans h
  · exact t_ref19_Unit.trans h
  · exact t_trace_Parse.trans h
  · exact t_ref06_Check.trans h
  · exact t_law06_Same.trans h
  · exact t_law02_Cut.trans h
  · exact t_ref10_Digits.trans h
  · exact t_ref10_Text.trans h
  · exact t_ref10_Hex.trans h
  · exact t_trace_Record.trans h
  · exact t_trace_Lines.trans h
  · exact t_law06_Few_1.trans h
  · exact t_law06_num.trans h
  · exact t_pdu_PDU_Check.trans h
  · exact t_pdu_PDU_Name.trans h
  · exact t_trace_has.trans h
  · exact t_trace_list.trans h
  · exact t_event_Hex.trans h
  · exact t_ref19_Name.trans h
  · exact t_ref06_HasSQ.trans h
  · exact t_ref06_HasN.trans h
  · exact t_ref06_Most.trans h
  · exact t_trace_kind.trans h
  · exact t_trace_take.trans h
  · exact t_ref06_low.trans h
  · exact t_ref06_in.trans h
  · exact t_event_Signal_Text.trans h
  · exact t_strings_Builder_WriteString.trans h
  · exact t_pdu_shapeOf.trans h
  · exact t_pdu_low.trans h
  · exact t_slices_ContainsFunc_Lseq_Num_seq_Num.trans h
  · exact t_pdu_PDU_Check_1.trans h
  · exact t_strings_Builder_WriteByte.trans h
  · exact t_trace_number.trans h
  · exact t_seq_Of.trans h
  · exact t_trace_nums.trans h
  · exact t_strings_CutPrefix.trans h
  · exact t_event_Unhex.trans h
  · exact t_seq_Num_Low.trans h
  · exact t_slices_IndexFunc_Lseq_Num_seq_Num.trans h
  · exact t_istringslite_CutPrefix.trans h
  · exact t_istringslite_HasPrefix.trans h
  · cases h
end Am
end Go.Proofs.YtjjkjfdojifchaaGreatDoor
