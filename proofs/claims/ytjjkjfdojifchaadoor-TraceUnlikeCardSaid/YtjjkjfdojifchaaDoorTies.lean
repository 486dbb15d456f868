/-
  THE FUNCTIONS' FORM IS TIED TO THE PROGRAM (printed by wip/am/Print2.lean).
  Conditions: none.
-/
import Derived.Test.YtjjkjfdojifchaaDoorFns
import Derived.Test.YtjjkjfdojifchaaDoorAm12
import Derived.Test.YtjjkjfdojifchaaDoorChecked
import Derived.KernelRfl
set_option maxRecDepth 100000
namespace Go.Proofs.YtjjkjfdojifchaaDoor
namespace Am
theorem t_law19_TraceReads : (Tryd.prog.funcs[3]?).bind (trF Tryd.prog G) = some c_law19_TraceReads := by rw [Tryd.func3]; kernel_rfl
theorem t_law19_TraceUnlike : (Tryd.prog.funcs[4]?).bind (trF Tryd.prog G) = some c_law19_TraceUnlike := by rw [Tryd.func4]; kernel_rfl
theorem t_law19_TraceKinds : (Tryd.prog.funcs[5]?).bind (trF Tryd.prog G) = some c_law19_TraceKinds := by rw [Tryd.func5]; kernel_rfl
theorem t_law19_awake : (Tryd.prog.funcs[6]?).bind (trF Tryd.prog G) = some c_law19_awake := by rw [Tryd.func6]; kernel_rfl
theorem t_law02_Cut : (Tryd.prog.funcs[7]?).bind (trF Tryd.prog G) = some c_law02_Cut := by rw [Tryd.func7]; kernel_rfl
theorem t_trace_Parse : (Tryd.prog.funcs[8]?).bind (trF Tryd.prog G) = some c_trace_Parse := by rw [Tryd.func8]; kernel_rfl
theorem t_trace_Unit : (Tryd.prog.funcs[9]?).bind (trF Tryd.prog G) = some c_trace_Unit := by rw [Tryd.func9]; kernel_rfl
theorem t_pdu_PDU_Check : (Tryd.prog.funcs[10]?).bind (trF Tryd.prog G) = some c_pdu_PDU_Check := by rw [Tryd.func10]; kernel_rfl
theorem t_law06_Few : (Tryd.prog.funcs[11]?).bind (trF Tryd.prog G) = some c_law06_Few := by rw [Tryd.func11]; kernel_rfl
theorem t_ref06_Check : (Tryd.prog.funcs[12]?).bind (trF Tryd.prog G) = some c_ref06_Check := by rw [Tryd.func12]; kernel_rfl
theorem t_law06_Own : (Tryd.prog.funcs[13]?).bind (trF Tryd.prog G) = some c_law06_Own := by rw [Tryd.func13]; kernel_rfl
theorem t_law06_Same : (Tryd.prog.funcs[14]?).bind (trF Tryd.prog G) = some c_law06_Same := by rw [Tryd.func14]; kernel_rfl
theorem t_ref06_HasSQ : (Tryd.prog.funcs[15]?).bind (trF Tryd.prog G) = some c_ref06_HasSQ := by rw [Tryd.func15]; kernel_rfl
theorem t_ref06_HasN : (Tryd.prog.funcs[16]?).bind (trF Tryd.prog G) = some c_ref06_HasN := by rw [Tryd.func16]; kernel_rfl
theorem t_ref06_Most : (Tryd.prog.funcs[17]?).bind (trF Tryd.prog G) = some c_ref06_Most := by rw [Tryd.func17]; kernel_rfl
theorem t_pdu_PDU_Name : (Tryd.prog.funcs[18]?).bind (trF Tryd.prog G) = some c_pdu_PDU_Name := by rw [Tryd.func18]; kernel_rfl
theorem t_trace_Record : (Tryd.prog.funcs[19]?).bind (trF Tryd.prog G) = some c_trace_Record := by rw [Tryd.func19]; kernel_rfl
theorem t_trace_kind : (Tryd.prog.funcs[21]?).bind (trF Tryd.prog G) = some c_trace_kind := by rw [Tryd.func21]; kernel_rfl
theorem t_trace_has : (Tryd.prog.funcs[22]?).bind (trF Tryd.prog G) = some c_trace_has := by rw [Tryd.func22]; kernel_rfl
theorem t_trace_take : (Tryd.prog.funcs[23]?).bind (trF Tryd.prog G) = some c_trace_take := by rw [Tryd.func23]; kernel_rfl
theorem t_trace_list : (Tryd.prog.funcs[25]?).bind (trF Tryd.prog G) = some c_trace_list := by rw [Tryd.func25]; kernel_rfl
theorem t_event_Hex : (Tryd.prog.funcs[26]?).bind (trF Tryd.prog G) = some c_event_Hex := by rw [Tryd.func26]; kernel_rfl
theorem t_pdu_shapeOf : (Tryd.prog.funcs[27]?).bind (trF Tryd.prog G) = some c_pdu_shapeOf := by rw [Tryd.func27]; kernel_rfl
theorem t_pdu_low : (Tryd.prog.funcs[28]?).bind (trF Tryd.prog G) = some c_pdu_low := by rw [Tryd.func28]; kernel_rfl
theorem t_slices_ContainsFunc_Lseq_Num_seq_Num : (Tryd.prog.funcs[29]?).bind (trF Tryd.prog G) = some c_slices_ContainsFunc_Lseq_Num_seq_Num := by rw [Tryd.func29]; kernel_rfl
theorem t_pdu_PDU_Check_1 : (Tryd.prog.funcs[30]?).bind (trF Tryd.prog G) = some c_pdu_PDU_Check_1 := by rw [Tryd.func30]; kernel_rfl
theorem t_law06_Few_1 : (Tryd.prog.funcs[31]?).bind (trF Tryd.prog G) = some c_law06_Few_1 := by rw [Tryd.func31]; kernel_rfl
theorem t_ref06_low : (Tryd.prog.funcs[32]?).bind (trF Tryd.prog G) = some c_ref06_low := by rw [Tryd.func32]; kernel_rfl
theorem t_ref06_in : (Tryd.prog.funcs[33]?).bind (trF Tryd.prog G) = some c_ref06_in := by rw [Tryd.func33]; kernel_rfl
theorem t_law06_num : (Tryd.prog.funcs[34]?).bind (trF Tryd.prog G) = some c_law06_num := by rw [Tryd.func34]; kernel_rfl
theorem t_event_Signal_Text : (Tryd.prog.funcs[35]?).bind (trF Tryd.prog G) = some c_event_Signal_Text := by rw [Tryd.func35]; kernel_rfl
theorem t_trace_number : (Tryd.prog.funcs[37]?).bind (trF Tryd.prog G) = some c_trace_number := by rw [Tryd.func37]; kernel_rfl
theorem t_seq_Of : (Tryd.prog.funcs[38]?).bind (trF Tryd.prog G) = some c_seq_Of := by rw [Tryd.func38]; kernel_rfl
theorem t_trace_nums : (Tryd.prog.funcs[39]?).bind (trF Tryd.prog G) = some c_trace_nums := by rw [Tryd.func39]; kernel_rfl
theorem t_strings_CutPrefix : (Tryd.prog.funcs[40]?).bind (trF Tryd.prog G) = some c_strings_CutPrefix := by rw [Tryd.func40]; kernel_rfl
theorem t_event_Unhex : (Tryd.prog.funcs[41]?).bind (trF Tryd.prog G) = some c_event_Unhex := by rw [Tryd.func41]; kernel_rfl
theorem t_strings_Builder_WriteByte : (Tryd.prog.funcs[44]?).bind (trF Tryd.prog G) = some c_strings_Builder_WriteByte := by rw [Tryd.func44]; kernel_rfl
theorem t_seq_Num_Low : (Tryd.prog.funcs[46]?).bind (trF Tryd.prog G) = some c_seq_Num_Low := by rw [Tryd.func46]; kernel_rfl
theorem t_slices_IndexFunc_Lseq_Num_seq_Num : (Tryd.prog.funcs[47]?).bind (trF Tryd.prog G) = some c_slices_IndexFunc_Lseq_Num_seq_Num := by rw [Tryd.func47]; kernel_rfl
theorem t_istringslite_CutPrefix : (Tryd.prog.funcs[52]?).bind (trF Tryd.prog G) = some c_istringslite_CutPrefix := by rw [Tryd.func52]; kernel_rfl
theorem t_istringslite_HasPrefix : (Tryd.prog.funcs[64]?).bind (trF Tryd.prog G) = some c_istringslite_HasPrefix := by rw [Tryd.func64]; kernel_rfl
theorem tF : ∀ f c, F f = some c → (Tryd.prog.funcs[f]?).bind (trF Tryd.prog G) = some c := by
  intro f c h
  unfold F at h
  split at h
  · exact t_law19_TraceReads.trans h
  · exact t_law19_TraceUnlike.trans h
  · exact t_law19_TraceKinds.trans h
  · exact t_law19_awake.trans h
  · exact t_law02_Cut.trans h
  · exact t_trace_Parse.trans h
  · exact t_trace_Unit.trans h
  · exact t_pdu_PDU_Check.trans h
  · exact t_law06_Few.trans h
  · exact t_ref06_Check.trans h
  · exact t_law06_Own.trans h
  · exact t_law06_Same.trans h
  · exact t_ref06_HasSQ.trans h
  · exact t_ref06_HasN.trans h
  · exact t_ref06_Most.trans h
  · exact t_pdu_PDU_Name.trans h
  · exact t_trace_Record.trans h
  · exact t_trace_kind.trans h
  · exact t_trace_has.trans h
  · exact t_trace_take.trans h
  · exact t_trace_list.trans h
  · exact t_event_Hex.trans h
  · exact t_pdu_shapeOf.trans h
  · exact t_pdu_low.trans h
  · exact t_slices_ContainsFunc_Lseq_Num_seq_Num.trans h
  · exact t_pdu_PDU_Check_1.trans h
  · exact t_law06_Few_1.trans h
  · exact t_ref06_low.trans h
  · exact t_ref06_in.trans h
  · exact t_law06_num.trans h
  · exact t_event_Signal_Text.trans h
  · exact t_trace_number.trans h
  · exact t_seq_Of.trans h
  · exact t_trace_nums.trans h
  · exact t_strings_CutPrefix.trans h
  · exact t_event_Unhex.trans h
  · exact t_strings_Builder_WriteByte.trans h
  · exact t_seq_Num_Low.trans h
  · exact t_slices_IndexFunc_Lseq_Num_seq_Num.trans h
  · exact t_istringslite_CutPrefix.trans h
  · exact t_istringslite_HasPrefix.trans h
  · cases h
end Am
end Go.Proofs.YtjjkjfdojifchaaDoor
