/-
  A RECORD THAT CAME IN; the law TraceRecords, walked.
  Conditions: none (what is asked of the world stands in each statement).
-/
import Derived.Test.YtjjkjfdojifchaaGreatDoorLa4
import Derived.Test.YtjjkjfdojifchaaGreatDoorSp21
import Derived.ChangeMaps5
set_option linter.unusedVariables false
set_option maxRecDepth 100000
set_option linter.unusedSimpArgs false
namespace Go.Proofs.YtjjkjfdojifchaaGreatDoor
namespace Am
open Go.RowKit Go.Proofs Go.ChangeShapes Go.ChangeMaps
theorem VR_str {σ : Sg} (s : ByteArray) : VR σ (.s s.data.toList) (.string s) := by
  have := VR.s (σ := σ) s.data.toList
  rwa [string_eta] at this
theorem u8_of {n : Int} (h : (Lit.int .u8 n).wf = true) : ∃ c : UInt8, n = c.toNat := by
  have h1 : 0 ≤ n ∧ n ≤ 255 := by simpa [Lit.wf, IntKind.has, IntKind.min, IntKind.max, IntKind.signed, IntKind.bits] using h
  refine ⟨UInt8.ofNat n.toNat, ?_⟩
  rw [UInt8.toNat_ofNat']
  omega
theorem wf_i64 {n : Int} (h : (Lit.int .i64 n).wf = true) : I64 n := by
  have h1 : -9223372036854775808 ≤ n ∧ n ≤ 9223372036854775807 := by simpa [Lit.wf, IntKind.has, IntKind.min, IntKind.max, IntKind.signed, IntKind.bits] using h
  exact h1
theorem len18 {α : Type} {l : List α} (h : l.length = 18) : ∃ c0 c1 c2 c3 c4 c5 c6 c7 c8 c9 c10 c11 c12 c13 c14 c15 c16 c17, l = [c0, c1, c2, c3, c4, c5, c6, c7, c8, c9, c10, c11, c12, c13, c14, c15, c16, c17] := by
  have g : ∀ i (hi : i < 18), i < l.length := fun i hi => by omega
  refine ⟨l[0]'(g 0 (by decide)), l[1]'(g 1 (by decide)), l[2]'(g 2 (by decide)), l[3]'(g 3 (by decide)), l[4]'(g 4 (by decide)), l[5]'(g 5 (by decide)), l[6]'(g 6 (by decide)), l[7]'(g 7 (by decide)), l[8]'(g 8 (by decide)), l[9]'(g 9 (by decide)), l[10]'(g 10 (by decide)), l[11]'(g 11 (by decide)), l[12]'(g 12 (by decide)), l[13]'(g 13 (by decide)), l[14]'(g 14 (by decide)), l[15]'(g 15 (by decide)), l[16]'(g 16 (by decide)), l[17]'(g 17 (by decide)), ?_⟩
  apply List.ext_getElem
  · simpa using h
  · intro i h1 h2
    have hi : i < 18 := by omega
    rcases i with _ | _ | _ | _ | _ | _ | _ | _ | _ | _ | _ | _ | _ | _ | _ | _ | _ | _ | i
    all_goals first | rfl | (exfalso; omega)
theorem rec_open {H : Type} {enc : TypeId × Value → H} {W : World} {held : Bool} {fuel : Nat} {cs : List Value} {x : DataW H × List MemPlace} (h : DataW.trod enc Tryz.prog W 0 (fun _ => true) held fuel 45 cs = some x) :
    ∃ e k kind sq n ps mr c5 self data sk sd ss sc sn rk rd rn y fuel', cs = [.int .i64 e, .int .i64 k, .int .i64 kind, .int .i64 sq, .int .u32 n, .int .u32 ps, .int .u32 mr, c5, .bool self, .string data, .int .i64 sk, .string sd, .bool ss, .int .u8 sc, .int .i64 sn, .int .i64 rk, .string rd, .int .i64 rn] ∧
      (Lit.int .u8 sc).wf = true ∧ (Lit.int .i64 sn).wf = true ∧ (Lit.int .i64 rk).wf = true ∧ (Lit.int .i64 rn).wf = true ∧ DataW.trod enc Tryz.prog W 0 (fun _ => true) held fuel' 29 [c5] = some y := by
  obtain ⟨hl, f', hf⟩ := trod_fields Tryz.underlying45 h
  have hl18 : cs.length = 18 := hl.trans (by kernel_rfl)
  have z3 : Tryz.prog.cellsOf 3 = 1 := by kernel_rfl
  have z4 : Tryz.prog.cellsOf 4 = 1 := by kernel_rfl
  have z9 : Tryz.prog.cellsOf 9 = 1 := by kernel_rfl
  have z5 : Tryz.prog.cellsOf 29 = 1 := by kernel_rfl
  have z6 : Tryz.prog.cellsOf 28 = 1 := by kernel_rfl
  have z7 : Tryz.prog.cellsOf 5 = 1 := by kernel_rfl
  have zU : Tryz.prog.cellsOf 31 = 8 := by kernel_rfl
  have zS : Tryz.prog.cellsOf 41 = 5 := by kernel_rfl
  have zR : Tryz.prog.cellsOf 43 = 3 := by kernel_rfl
  obtain ⟨c0, c1, c2, c3, c4, c5, c6, c7, c8, c9, c10, c11, c12, c13, c14, c15, c16, c17, rfl⟩ := len18 hl18
  obtain ⟨y0, r0⟩ := hf 0 _ rfl
  obtain ⟨y1, r1⟩ := hf 1 _ rfl
  obtain ⟨y2, r2⟩ := hf 2 _ rfl
  obtain ⟨y3, r3⟩ := hf 3 _ rfl
  obtain ⟨y4, r4⟩ := hf 4 _ rfl
  simp only [z3, zU, zS, zR, List.drop_zero, List.drop_succ_cons, List.take_succ_cons, List.take_zero] at r0 r1 r2 r3 r4
  obtain ⟨_, f2, hf2⟩ := trod_fields Tryz.underlying31 r2
  obtain ⟨_, f3, hf3⟩ := trod_fields Tryz.underlying41 r3
  obtain ⟨_, f4, hf4⟩ := trod_fields Tryz.underlying43 r4
  obtain ⟨y20, r20⟩ := hf2 0 _ rfl
  obtain ⟨y21, r21⟩ := hf2 1 _ rfl
  obtain ⟨y22, r22⟩ := hf2 2 _ rfl
  obtain ⟨y23, r23⟩ := hf2 3 _ rfl
  obtain ⟨y24, r24⟩ := hf2 4 _ rfl
  obtain ⟨y25, r25⟩ := hf2 5 _ rfl
  obtain ⟨y26, r26⟩ := hf2 6 _ rfl
  obtain ⟨y27, r27⟩ := hf2 7 _ rfl
  obtain ⟨y30, r30⟩ := hf3 0 _ rfl
  obtain ⟨y31, r31⟩ := hf3 1 _ rfl
  obtain ⟨y32, r32⟩ := hf3 2 _ rfl
  obtain ⟨y33, r33⟩ := hf3 3 _ rfl
  obtain ⟨y34, r34⟩ := hf3 4 _ rfl
  obtain ⟨y40, r40⟩ := hf4 0 _ rfl
  obtain ⟨y41, r41⟩ := hf4 1 _ rfl
  obtain ⟨y42, r42⟩ := hf4 2 _ rfl
  simp only [z3, z4, z5, z6, z7, z9, List.drop_zero, List.drop_succ_cons, List.take_succ_cons, List.take_zero] at r20 r21 r22 r23 r24 r25 r26 r27 r30 r31 r32 r33 r34 r40 r41 r42
  obtain ⟨n0, e0, w0⟩ := trod_num Tryz.underlying3 r0
  obtain ⟨n1, e1, w1⟩ := trod_num Tryz.underlying3 r1
  obtain ⟨n2, e2, w2⟩ := trod_num Tryz.underlying3 r20
  obtain ⟨n3, e3, w3⟩ := trod_num Tryz.underlying3 r21
  obtain ⟨n4, e4, w4⟩ := trod_num Tryz.underlying28 r22
  obtain ⟨n5, e5, w5⟩ := trod_num Tryz.underlying28 r23
  obtain ⟨n6, e6, w6⟩ := trod_num Tryz.underlying28 r24
  obtain ⟨n8, e8⟩ := trod_bool Tryz.underlying4 r26
  obtain ⟨n9, e9, _⟩ := trod_str Tryz.underlying9 r27
  obtain ⟨n10, e10, w10⟩ := trod_num Tryz.underlying3 r30
  obtain ⟨n11, e11, _⟩ := trod_str Tryz.underlying9 r31
  obtain ⟨n12, e12⟩ := trod_bool Tryz.underlying4 r32
  obtain ⟨n13, e13, w13⟩ := trod_num Tryz.underlying5 r33
  obtain ⟨n14, e14, w14⟩ := trod_num Tryz.underlying3 r34
  obtain ⟨n15, e15, w15⟩ := trod_num Tryz.underlying3 r40
  obtain ⟨n16, e16, _⟩ := trod_str Tryz.underlying9 r41
  obtain ⟨n17, e17, w17⟩ := trod_num Tryz.underlying3 r42
  injection e0 with e0 _
  injection e1 with e1 _
  injection e2 with e2 _
  injection e3 with e3 _
  injection e4 with e4 _
  injection e5 with e5 _
  injection e6 with e6 _
  injection e8 with e8 _
  injection e9 with e9 _
  injection e10 with e10 _
  injection e11 with e11 _
  injection e12 with e12 _
  injection e13 with e13 _
  injection e14 with e14 _
  injection e15 with e15 _
  injection e16 with e16 _
  injection e17 with e17 _
  subst e0 e1 e2 e3 e4 e5 e6 e8 e9 e10 e11 e12 e13 e14 e15 e16 e17
  exact ⟨n0, n1, n2, n3, n4, n5, n6, c7, n8, n9, n10, n11, n12, n13, n14, n15, n16, n17, y25, f2, rfl, w13, w14, w15, w17, r25⟩
/-- A record that came in: its value; its list's row may be anything. -/
theorem rec_value {H : Type} {enc : TypeId × Value → H} {W : World} {held : Bool} {fuel : Nat} {v : Value} {x : DataW H × List MemPlace} {r : Reach} {base : Nat} (hok : Value.okWide Tryz.prog W r base 45 v) (h : DataW.trod enc Tryz.prog W 0 (fun _ => true) held fuel 45 v.cells.toList = some x) :
    ∃ (e k : Int) (u : U) (a : Nat → Option (Nat × Nat)) (c : Option Nat) (z : Nat) (sk : Int) (sd : List UInt8) (ss : Bool) (sc : UInt8) (sn rk : Int) (rd : List UInt8) (rn : Int) (rows : List Obj) (ls : List (Option Loc)), I64 sn ∧ I64 rk ∧ I64 rn ∧ ls.length = rows.length ∧ rows.length ≤ 1 ∧
      (∀ (k : Nat) o l, rows[k]? = some o → ls[k]? = some (some l) → l.b < W.heap.size ∧ o.live = false ∧ ∀ σ, OR σ W.heap.size W l o) ∧ (∀ o ∈ rows, o.live = false) ∧
      (∀ (σ : Sg) (id : Nat), (∀ (l : Loc), ls[0]? = some (some l) → σ id = some l) → VR σ (.g (recV e k u (a id) c z sk sd ss sc sn rk rd rn)) v) := by
  unfold Value.okWide at hok
  rw [Tryz.underlying45] at hok
  obtain ⟨ca, rfl, _, ts, hts, _, hall⟩ := hok
  have hts' : Tryz.prog.cellTypes Tryz.prog.depth 45 = some [3, 3, 3, 3, 28, 28, 28, 29, 4, 9, 3, 9, 4, 5, 3, 3, 9, 3] := by kernel_rfl
  obtain rfl := Option.some.inj (hts'.symm.trans hts)
  obtain ⟨e, k, kind, sq, n, ps, mr, c5, self, data, sk, sd, ss, sc, sn, rk, rd, rn, y, f', hcs, w1, w2, w3, w4, h5⟩ := rec_open h
  have hca : ca = #[.int .i64 e, .int .i64 k, .int .i64 kind, .int .i64 sq, .int .u32 n, .int .u32 ps, .int .u32 mr, c5, .bool self, .string data, .int .i64 sk, .string sd, .bool ss, .int .u8 sc, .int .i64 sn, .int .i64 rk, .string rd, .int .i64 rn] := by
    have h1 : ca.toList = _ := hcs
    cases ca
    simpa using h1
  subst hca
  have ok5 : Cell.okWide Tryz.prog W r base 29 c5 := by
    obtain ⟨u, hu, hk⟩ := hall 7 c5 rfl
    obtain rfl : 29 = u := by simpa using hu
    exact hk
  obtain ⟨sc', rfl⟩ := u8_of w1
  rcases int_row Tryz.underlying29 Tryz.underlying28 (by kernel_rfl) h5 (fun v e => by injection e with e _; subst e; exact ok5) with e5 | ⟨b, off, len, cap, nn, zs, e5, hzl, _, hb, hOR, hVR⟩
  · injection e5 with e5 _
    subst e5
    refine ⟨e, k, ⟨kind, sq, n, ps, mr, [], self, data.data.toList⟩, fun _ => none, some 0, 0, sk, sd.data.toList, ss, sc', sn, rk, rd.data.toList, rn, [], [], wf_i64 w2, wf_i64 w3, wf_i64 w4, rfl, by simp, (fun k o l hk => by simp at hk), (fun o ho => by cases ho), fun σ id _ => ?_⟩
    exact .g (.cons (.i _ _) (.cons (.i _ _) (.cons (.i _ _) (.cons (.i _ _) (.cons (.i _ _) (.cons (.i _ _) (.cons (.i _ _) (.cons (.sl0 0) (.cons (.b _) (.cons (VR_str _) (.cons (.i _ _) (.cons (VR_str _) (.cons (.b _) (.cons (.i _ _) (.cons (.i _ _) (.cons (.i _ _) (.cons (VR_str _) (.cons (.i _ _) .nil))))))))))))))))))
  · injection e5 with e5 _
    subst e5
    subst hzl
    refine ⟨e, k, ⟨kind, sq, n, ps, mr, zs, self, data.data.toList⟩, fun id => some (id, 0), none, 1, sk, sd.data.toList, ss, sc', sn, rk, rd.data.toList, rn, [.cells (zs.map (.i .u32)) true none], [some ⟨b, off, nn⟩], wf_i64 w2, wf_i64 w3, wf_i64 w4, rfl, by simp, fun k o l hk hl => ?_, (fun o ho => by simp at ho; subst ho; rfl), fun σ id hs => ?_⟩
    · match k, hk, hl with
      | 0, hk, hl =>
        cases hk; cases hl
        exact ⟨hb, rfl, fun σ => hOR σ _⟩
    · exact .g (.cons (.i _ _) (.cons (.i _ _) (.cons (.i _ _) (.cons (.i _ _) (.cons (.i _ _) (.cons (.i _ _) (.cons (.i _ _) (.cons (hVR σ id (hs _ rfl)) (.cons (.b _) (.cons (VR_str _) (.cons (.i _ _) (.cons (VR_str _) (.cons (.b _) (.cons (.i _ _) (.cons (.i _ _) (.cons (.i _ _) (.cons (VR_str _) (.cons (.i _ _) .nil))))))))))))))))))
theorem rows_app {W : World} {rows rows' : List Obj} {ls ls' : List (Option Loc)} (hlen : ls.length = rows.length)
    (hr : ∀ (k : Nat) o l, rows[k]? = some o → ls[k]? = some (some l) → l.b < W.heap.size ∧ o.live = false ∧ ∀ σ, OR σ W.heap.size W l o) (hr' : ∀ (k : Nat) o l, rows'[k]? = some o → ls'[k]? = some (some l) → l.b < W.heap.size ∧ o.live = false ∧ ∀ σ, OR σ W.heap.size W l o) :
    ∀ (k : Nat) o l, (rows ++ rows')[k]? = some o → (ls ++ ls')[k]? = some (some l) → l.b < W.heap.size ∧ o.live = false ∧ ∀ σ, OR σ W.heap.size W l o := by
  intro k o l h1 h2
  by_cases hk : k < rows.length
  · rw [List.getElem?_append_left hk] at h1
    rw [List.getElem?_append_left (by omega)] at h2
    exact hr k o l h1 h2
  · rw [List.getElem?_append_right (by omega)] at h1
    rw [List.getElem?_append_right (by omega), hlen] at h2
    exact hr' _ o l h1 h2
theorem recs_walk {H : Type} {enc : TypeId × Value → H} {W : World} (hl : laidMetH Tryz.prog laidL W) (hsh : W.ShapedOpen Tryz.prog) {r : Reach} {base : Nat} {v : Value} {d : DataW H} {ps : List MemPlace} (hok : Value.okWide Tryz.prog W r base 45 v) (h : DataW.Trod enc Tryz.prog W 0 (fun _ => true) true 45 v d ps)
    {v' : Value} {d' : DataW H} {ps' : List MemPlace} (hok' : Value.okWide Tryz.prog W r base 24 v') (h' : DataW.Trod enc Tryz.prog W 0 (fun _ => true) true 24 v' d' ps') :
    Calls Tryz.prog n_law19_TraceRecords #[v, v'] W fun e W' => e = .returned (.bool true) ∧ Below W.heap.size W W' := by
  obtain ⟨tp, m, te3, te4, b3, o3, b4, o4, hW⟩ := world_ok hl hsh
  obtain ⟨fuel, h⟩ := h
  obtain ⟨fuel', h'⟩ := h'
  obtain ⟨e, k, u, a, c, z, sk, sd, ss, sc, sn, rk, rd, rn, rows, ls, i1, i2, i3, hlen, _, hr, hlive, hV⟩ := rec_value hok h
  obtain ⟨u', a', c', z', rows', ls', hlen', _, hr', hlive', hV', hR'⟩ := ref_value hok' h'
  have hH := first_HR hW (rows := rows ++ rows') (ls := ls ++ ls') (by simp [hlen, hlen']) (rows_app hlen hr hr') (fun o ho => (List.mem_append.1 ho).elim (hlive o) (hlive' o))
  obtain ⟨v'', h', ht, rfl⟩ := s_TraceRecords e k u u' (a 7) (a' (7 + rows.length)) c c' z z' sk sd ss sc sn rk rd rn (H0 tp m te3 te4 (rows ++ rows'))
    (hR' _ (7 + rows.length) (fun o ho => by rw [Nat.add_comm]; show (rows ++ rows')[rows.length]? = some o; rw [List.getElem?_append_right (Nat.le_refl _), Nat.sub_self]; exact ho)) (H0_gl hW.tpow _ _ _ _) i1 i2 i3
  refine (calls_to (us := [v, v']) ht (S0_gl _ _ _ _ _) hH (.cons (hV _ 7 (fun l hl => by show ((ls ++ ls')[0]?).join = some l; rw [List.getElem?_append_left (List.getElem?_eq_some_iff.1 hl).1, hl]; rfl))
    (.cons (hV' _ (7 + rows.length) (fun l hl => by rw [Nat.add_comm]; show ((ls ++ ls')[rows.length]?).join = some l; rw [← hlen, List.getElem?_append_right (Nat.le_refl _), Nat.sub_self, hl]; rfl)) .nil))).mono ?_
  rintro e W' ⟨σ', w, rfl, hw, hHR, _⟩
  cases hw
  exact ⟨rfl, hHR.below⟩
end Am
end Go.Proofs.YtjjkjfdojifchaaGreatDoor
