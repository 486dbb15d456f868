/-
  THE DOCUMENT'S UNIT THAT CAME IN, AS THE MACHINE'S VALUE.
  Conditions: none.
-/
import Derived.Test.YtjjkjfdojifchaaGreatDoorLa3
import Derived.Test.YtjjkjfdojifchaaGreatDoorLa4
set_option linter.unusedVariables false
set_option linter.unusedSimpArgs false
namespace Go.Proofs.YtjjkjfdojifchaaGreatDoor
namespace Am
open Go.RowKit Go.Proofs Go.ChangeShapes
theorem len8 {α : Type} {l : List α} (h : l.length = 8) : ∃ a b c d e f g i, l = [a, b, c, d, e, f, g, i] := by
  rcases l with _ | ⟨a, _ | ⟨b, _ | ⟨c, _ | ⟨d, _ | ⟨e, _ | ⟨f, _ | ⟨g, _ | ⟨i, _ | ⟨j, l⟩⟩⟩⟩⟩⟩⟩⟩⟩ <;> simp at h
  exact ⟨a, b, c, d, e, f, g, i, rfl⟩
theorem ref_open {H : Type} {enc : TypeId × Value → H} {W : World} {held : Bool} {fuel : Nat} {cs : List Value} {x : DataW H × List MemPlace} (h : DataW.trod enc Tryz.prog W 0 (fun _ => true) held fuel 24 cs = some x) :
    ∃ kind sq n ps mr c5 self data y fuel', cs = [.int .i64 kind, .int .i64 sq, .int .i64 n, .int .i64 ps, .int .i64 mr, c5, .bool self, .string data] ∧ DataW.trod enc Tryz.prog W 0 (fun _ => true) held fuel' 22 [c5] = some y := by
  obtain ⟨hl, f', hf⟩ := trod_fields Tryz.underlying24 h
  have hl8 : cs.length = 8 := hl.trans (by kernel_rfl)
  obtain ⟨c0, c1, c2, c3, c4, c5, c6, c7, rfl⟩ := len8 hl8
  have z3 : Tryz.prog.cellsOf 3 = 1 := by kernel_rfl
  have z4 : Tryz.prog.cellsOf 4 = 1 := by kernel_rfl
  have z9 : Tryz.prog.cellsOf 9 = 1 := by kernel_rfl
  have z5 : Tryz.prog.cellsOf 22 = 1 := by kernel_rfl
  obtain ⟨y0, r0⟩ := hf 0 _ rfl
  obtain ⟨y1, r1⟩ := hf 1 _ rfl
  obtain ⟨y2, r2⟩ := hf 2 _ rfl
  obtain ⟨y3, r3⟩ := hf 3 _ rfl
  obtain ⟨y4, r4⟩ := hf 4 _ rfl
  obtain ⟨y5, r5⟩ := hf 5 _ rfl
  obtain ⟨y6, r6⟩ := hf 6 _ rfl
  obtain ⟨y7, r7⟩ := hf 7 _ rfl
  simp only [z3, z4, z5, z9, List.drop_zero, List.drop_succ_cons, List.take_succ_cons, List.take_zero] at r0 r1 r2 r3 r4 r5 r6 r7
  obtain ⟨n0, e0, _⟩ := trod_num Tryz.underlying3 r0
  obtain ⟨n1, e1, _⟩ := trod_num Tryz.underlying3 r1
  obtain ⟨n2, e2, _⟩ := trod_num Tryz.underlying3 r2
  obtain ⟨n3, e3, _⟩ := trod_num Tryz.underlying3 r3
  obtain ⟨n4, e4, _⟩ := trod_num Tryz.underlying3 r4
  obtain ⟨b, e6⟩ := trod_bool Tryz.underlying4 r6
  obtain ⟨s, e7, _⟩ := trod_str Tryz.underlying9 r7
  injection e0 with e0 _; injection e1 with e1 _; injection e2 with e2 _; injection e3 with e3 _; injection e4 with e4 _; injection e6 with e6 _; injection e7 with e7 _
  subst e0 e1 e2 e3 e4 e6 e7
  exact ⟨n0, n1, n2, n3, n4, c5, b, s, y5, f', rfl, r5⟩
end Am
end Go.Proofs.YtjjkjfdojifchaaGreatDoor
