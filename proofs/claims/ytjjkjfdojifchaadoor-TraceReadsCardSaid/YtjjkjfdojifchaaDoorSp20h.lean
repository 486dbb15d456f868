/-
  WHAT THE FUNCTIONS COME TO, part 20h: what the laws call, at one go.
  Conditions: none.
-/
import Derived.Test.YtjjkjfdojifchaaDoorSp19
import Derived.Test.YtjjkjfdojifchaaDoorSp5
import Derived.Test.YtjjkjfdojifchaaDoorSp11
import Derived.Test.YtjjkjfdojifchaaDoorSp15
set_option linter.unusedVariables false
set_option linter.unusedSimpArgs false
namespace Go.Proofs.YtjjkjfdojifchaaDoor
namespace Am
theorem few_W (u : U) : Wd (fewU u) :=
  ⟨cl_W _, cl_W _, cl_W _, fun x hx => by
    simp only [fewU, List.mem_map] at hx
    obtain ⟨y, _, rfl⟩ := hx
    exact cl_W y, by simp [fewU]; omega, by simp [fewU]; omega⟩
theorem own_few (u : U) : { fewU u with n := cl (fewU u).n, ps := cl (fewU u).ps, mr := cl (fewU u).mr, list := (fewU u).list.map cl } = fewU u := by
  have h : ((fewU u).list.map cl) = (fewU u).list := by
    conv => rhs; rw [← List.map_id (fewU u).list]
    apply List.map_congr_left
    intro x hx
    exact cl_id ((few_W u).list x hx)
  rw [h]
  simp only [fewU, cl_id (cl_W _)]
/-- Few, at one go. -/
theorem Pc_few {u : U} {h : Heap} {a : Option (Nat × Nat)} {c : Option Nat} {z : Nat} {d : Option Nat} {k : List K} {fr : List V} {Q : X → List V → Heap → Prop} (hR : R1 h a z (u.list.map (.i .i64)))
    (hs : ∀ a' c' z' h', Keeps h h' → R1 h' a' z' ((fewU u).list.map (.i .i64)) → (∀ j off, a' = some (j, off) → h.length ≤ j) →
      Un M k .nrm (put fr d (.g [.i .i64 (fewU u).kind, .i .i64 (fewU u).sq, .i .i64 (fewU u).n, .i .i64 (fewU u).ps, .i .i64 (fewU u).mr, .sl a' (fewU u).list.length c' z', .b (fewU u).self, .s (fewU u).data])) h' Q) :
    Pc M n_law06_Few [.g [.i .i64 u.kind, .i .i64 u.sq, .i .i64 u.n, .i .i64 u.ps, .i .i64 u.mr, .sl a u.list.length c z, .b u.self, .s u.data]] h d k fr Q := by
  obtain ⟨v, h', ht, a', c', z', rfl, hk, hR', hn⟩ := s_Few u h a c z hR
  exact Pc_of ht (hs a' c' z' h' hk hR' hn)
/-- Own of what Few gave. -/
theorem Pc_own {u : U} {h : Heap} {a : Option (Nat × Nat)} {c : Option Nat} {z : Nat} {d : Option Nat} {k : List K} {fr : List V} {Q : X → List V → Heap → Prop} (hR : R1 h a z ((fewU u).list.map (.i .i64)))
    (hs : ∀ a' c' z' h', Keeps h h' → R1 h' a' z' ((fewU u).list.map (.i .u32)) → (∀ j off, a' = some (j, off) → h.length ≤ j) →
      Un M k .nrm (put fr d (.g [.i .i64 (fewU u).kind, .i .i64 (fewU u).sq, .i .u32 (fewU u).n, .i .u32 (fewU u).ps, .i .u32 (fewU u).mr, .sl a' (fewU u).list.length c' z', .b (fewU u).self, .s (fewU u).data])) h' Q) :
    Pc M n_law06_Own [.g [.i .i64 (fewU u).kind, .i .i64 (fewU u).sq, .i .i64 (fewU u).n, .i .i64 (fewU u).ps, .i .i64 (fewU u).mr, .sl a (fewU u).list.length c z, .b (fewU u).self, .s (fewU u).data]] h d k fr Q := by
  obtain ⟨v, h', ht, a', c', z', rfl, hk, hR', hn⟩ := s_Own (fewU u) h a c z hR (by have := (few_W u).len; omega)
  rw [own_few] at ht
  have e : (fewU u).list.map cl = (fewU u).list := by have := own_few u; injection this
  rw [e] at hR'
  exact Pc_of ht (hs a' c' z' h' hk hR' hn)
theorem Pc_unit {x : U} {h : Heap} {a : Option (Nat × Nat)} {c : Option Nat} {z : Nat} {d : Option Nat} {k : List K} {fr : List V} {Q : X → List V → Heap → Prop} (hR : R1 h a z (x.list.map (.i .u32))) (hw : Wd x) (hg : glOk h = true)
    (hs : ∀ h', Keeps h h' → Un M k .nrm (put fr d (.s (unitT x))) h' Q) :
    Pc M n_trace_Unit [.g [.i .i64 x.kind, .i .i64 x.sq, .i .u32 x.n, .i .u32 x.ps, .i .u32 x.mr, .sl a x.list.length c z, .b x.self, .s x.data]] h d k fr Q := by
  obtain ⟨v, h', ht, rfl, hk⟩ := s_UnitT x h a c z hR hw hg
  exact Pc_of ht (hs h' hk)
theorem Pc_rcheck {x : U} {h : Heap} {a : Option (Nat × Nat)} {c : Option Nat} {z : Nat} {d : Option Nat} {k : List K} {fr : List V} {Q : X → List V → Heap → Prop} (hR : R1 h a z (x.list.map (.i .i64))) (hw : Wd x)
    (hs : ∀ (e : Int) os, (e = 0 ↔ okU x) → Un M k .nrm (put fr d (.i .i64 e)) (h ++ os) Q) :
    Pc M n_ref06_Check [.g [.i .i64 x.kind, .i .i64 x.sq, .i .i64 x.n, .i .i64 x.ps, .i .i64 x.mr, .sl a x.list.length c z, .b x.self, .s x.data]] h d k fr Q := by
  obtain ⟨v, h', ht, e, os, rfl, rfl, he⟩ := s_rCheck x h a c z hR (by have := hw.len; omega)
  exact Pc_of ht (hs e os he)
theorem Pc_same {u x : U} {h : Heap} {a a' : Option (Nat × Nat)} {c c' : Option Nat} {z z' : Nat} {d : Option Nat} {k : List K} {fr : List V} {Q : X → List V → Heap → Prop} (hR : R1 h a z (u.list.map (.i .u32))) (hX : R1 h a' z' (x.list.map (.i .i64))) (hw : Wd u) (hx : x.list.length ≤ 1000)
    (hs : ∀ (e : Bool) os, (e = true ↔ u = x) → Un M k .nrm (put fr d (.b e)) (h ++ os) Q) :
    Pc M n_law06_Same [.g [.i .i64 u.kind, .i .i64 u.sq, .i .u32 u.n, .i .u32 u.ps, .i .u32 u.mr, .sl a u.list.length c z, .b u.self, .s u.data], .g [.i .i64 x.kind, .i .i64 x.sq, .i .i64 x.n, .i .i64 x.ps, .i .i64 x.mr, .sl a' x.list.length c' z', .b x.self, .s x.data]] h d k fr Q := by
  obtain ⟨v, h', ht, e, os, rfl, rfl, he⟩ := s_Same u x h a a' c c' z z' hR hX (by omega) (by have := hw.len; omega) hw.n hw.ps hw.mr hw.list
  exact Pc_of ht (hs e os he)
theorem fieldT_ok {u : U} (ok : okU u) (w : UInt8) : (fieldT u w).length ≤ 3000 := by
  obtain ⟨l1, l2, l3, l4, l5⟩ := okU_low ok
  have h1 := itoaL_len (low_W l1)
  have h2 := itoaL_len (low_W l2)
  have h3 := itoaL_len (low_W l3)
  have h4 := itoaL_len (low_W l4)
  have h5 := listT_len (l := u.list) (fun x hx => low_W (l5 x hx))
  have h6 := hexT_len u.data
  have h7 := ok.2.2.2.1
  have h8 : u.data.length ≤ 200 := by
    have := ok.2.2.1
    unfold most at this
    split at this
    · omega
    · split at this <;> omega
  unfold fieldT
  split
  · simp; omega
  split
  · simp; omega
  split
  · simp; omega
  split
  · simp; omega
  split
  · simp; omega
  split
  · simp; omega
  · simp; omega
theorem unitT_le (u : U) : (unitT u).length ≤ 40000 := by
  unfold unitT
  split
  · rename_i ok
    have h1 : ∀ (l : List UInt8), (l.flatMap (fieldT u)).length ≤ 3000 * l.length := by
      intro l
      induction l with
      | nil => simp
      | cons a l ih =>
        have := fieldT_ok ok a
        simp only [List.flatMap_cons, List.length_append, List.length_cons]
        omega
    have h2 := h1 (hasL u.kind)
    have h3 := (hasL_ok u.kind).2
    have h4 := nameL_len u.kind
    simp only [txt, List.length_append]
    omega
  · simp
theorem unit_parse {x v : U} (e : parseP (unitT x) = some v) : okU x ∧ v = x := by
  unfold unitT at e
  split at e
  · rename_i ok
    rw [parse_txt ok] at e
    injection e with e
    exact ⟨ok, e.symm⟩
  · rw [parse_nil] at e; cases e
theorem unit_noparse {x : U} (e : parseP (unitT x) = none) : ¬ okU x := fun ok => by
  rw [unitT, if_pos ok, parse_txt ok] at e
  cases e
end Am
end Go.Proofs.YtjjkjfdojifchaaDoor
