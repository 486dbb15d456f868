/-
  WHAT A CALL CHANGES: some objects; what was there else is there still. Numbers of 24 bits.
  Conditions: none (lemmas).
-/
import Derived.Test.YtcndgnddipbbgaaGreatOrcL
set_option linter.unusedVariables false
set_option linter.unusedSimpArgs false
namespace Go.Proofs.YtcndgnddipbbgaaGreat
namespace Am
/-- Nothing but F's objects is another; more may be there. -/
def Fr (h : Heap) (F : List Nat) (h' : Heap) : Prop := h.length ≤ h'.length ∧ ∀ i, i < h.length → i ∉ F → h'[i]? = h[i]?
theorem Fr.refl (h : Heap) (F : List Nat) : Fr h F h := ⟨Nat.le_refl _, fun _ _ _ => rfl⟩
theorem Fr.app {h h1 : Heap} {F : List Nat} (k : Fr h F h1) (os : Heap) : Fr h F (h1 ++ os) :=
  ⟨by have := k.1; simp; omega, fun i hi hn => by rw [List.getElem?_append_left (by have := k.1; omega)]; exact k.2 i hi hn⟩
theorem Fr.set {h h1 : Heap} {F : List Nat} (k : Fr h F h1) {i : Nat} (hi : i ∈ F ∨ h.length ≤ i) (o : Obj) : Fr h F (h1.set i o) :=
  ⟨by have := k.1; simpa using this, fun j hj hn => by
    have : i ≠ j := by rintro rfl; rcases hi with hi | hi; exact hn hi; omega
    rw [List.getElem?_set_ne this]; exact k.2 j hj hn⟩
theorem Fr.trans {h h1 h2 : Heap} {F G : List Nat} (k : Fr h F h1) (l : Fr h1 G h2) (hG : ∀ i ∈ G, i ∈ F ∨ h.length ≤ i) : Fr h F h2 :=
  ⟨Nat.le_trans k.1 l.1, fun i hi hn => by
    have hl := k.1
    rw [l.2 i (by omega) (fun c => by rcases hG i c with c | c; exact hn c; omega)]
    exact k.2 i hi hn⟩
theorem Fr.get {h h' : Heap} {F : List Nat} (k : Fr h F h') {i : Nat} {o : Obj} (hi : h[i]? = some o) (hn : i ∉ F) : h'[i]? = some o := by
  rw [k.2 i (List.getElem?_eq_some_iff.1 hi).1 hn]; exact hi
theorem Fr.sub {h h' : Heap} {F G : List Nat} (k : Fr h F h') (hs : ∀ i ∈ F, i ∈ G) : Fr h G h' := ⟨k.1, fun i hi hn => k.2 i hi fun c => hn (hs i c)⟩
theorem Fr.keeps {h h' : Heap} (k : Fr h [] h') : Keeps h h' := ⟨k.1, fun i o e => k.get e (by simp)⟩
theorem Keeps.fr {h h' : Heap} (k : Keeps h h') (F : List Nat) : Fr h F h' := ⟨k.1, fun i hi _ => by
  rw [List.getElem?_eq_getElem hi]; exact k.2 i _ (List.getElem?_eq_getElem hi)⟩
theorem Fr.lt {h h' : Heap} {F : List Nat} (k : Fr h F h') {i : Nat} {o : Obj} (hi : h[i]? = some o) : i < h'.length := by
  have := (List.getElem?_eq_some_iff.1 hi).1; have := k.1; omega
theorem lt_of {h : Heap} {i : Nat} {o : Obj} (hi : h[i]? = some o) : i < h.length := (List.getElem?_eq_some_iff.1 hi).1
theorem nel {i n : Nat} (h : i < n) : (i = n) = False := by apply eq_false; omega
theorem nelk {i n : Nat} (h : i < n) (k : Nat) : (i = n + k) = False := by apply eq_false; omega
theorem nelr {i n : Nat} (h : i < n) : (n = i) = False := by apply eq_false; omega
theorem nelkr {i n : Nat} (h : i < n) (k : Nat) : (n + k = i) = False := by apply eq_false; omega
/-- A call by what it leaves. -/
theorem Pc_ex {M : Mach} {f : Nat} {args : List V} {h : Heap} {v : V} {d : Option Nat} {k : List K} {fr : List V} {Q : X → List V → Heap → Prop} {C : Heap → Prop} (ht : ∃ h', To M f args h v h' ∧ C h') (hr : ∀ h', C h' → Un M k .nrm (put fr d v) h' Q) : Pc M f args h d k fr Q := by
  obtain ⟨h', ht, hc⟩ := ht
  exact Pc_of ht (hr h' hc)
theorem Pc_exv {M : Mach} {f : Nat} {args : List V} {h : Heap} {d : Option Nat} {k : List K} {fr : List V} {Q : X → List V → Heap → Prop} {C : V → Heap → Prop} (ht : ∃ v h', To M f args h v h' ∧ C v h') (hr : ∀ v h', C v h' → Un M k .nrm (put fr d v) h' Q) : Pc M f args h d k fr Q := by
  obtain ⟨v, h', ht, hc⟩ := ht
  exact Pc_of ht (hr v h' hc)
/-- .. the body's proof. -/
theorem ex_of {M : Mach} {f : Nat} {args : List V} {h : Heap} {r : V} {C : Heap → Prop} (hw : ∃ v h', To M f args h v h' ∧ (v = r ∧ C h')) : ∃ h', To M f args h r h' ∧ C h' := by
  obtain ⟨v, h', a, rfl, c⟩ := hw
  exact ⟨h', a, c⟩
/-! ### Numbers of 24 bits -/
def nLow (a : Int) : Int := a % 16777216
def nAdd (a n : Int) : Int := (a + n) % 16777216
def nTo (a b : Int) : Int := (b - a) % 16777216
theorem and_mask (w n : Nat) (hn : n ≤ w) (a : Int) : ((BitVec.ofInt w a &&& BitVec.ofInt w ((2 ^ n - 1 : Nat) : Int)).toNat : Int) = a % ((2 ^ n : Nat) : Int) := by
  have h2 : (0 : Nat) < 2 ^ n := Nat.two_pow_pos n
  have hw : (2 : Nat) ^ n ≤ 2 ^ w := Nat.pow_le_pow_right (by decide) hn
  rw [BitVec.toNat_and, BitVec.toNat_ofInt, BitVec.toNat_ofInt]
  have e1 : (((2 ^ n - 1 : Nat) : Int) % ((2 ^ w : Nat) : Int)).toNat = 2 ^ n - 1 := by
    rw [← Int.natCast_emod, Int.toNat_natCast]
    exact Nat.mod_eq_of_lt (by omega)
  rw [e1, Nat.and_two_pow_sub_one_eq_mod, Int.natCast_emod, Int.toNat_of_nonneg (Int.emod_nonneg _ (by omega))]
  exact Int.emod_emod_of_dvd a (Int.natCast_dvd_natCast.2 (Nat.pow_dvd_pow 2 hn))
theorem mask32 (a : Int) : ((BitVec.ofInt IntKind.u32.bits a &&& BitVec.ofInt IntKind.u32.bits 16777215).toNat : Int) = a % 16777216 := and_mask 32 24 (by decide) a
theorem mask64 (a : Int) : ((BitVec.ofInt IntKind.i64.bits a &&& BitVec.ofInt IntKind.i64.bits 16777215).toNat : Int) = a % 16777216 := and_mask 64 24 (by decide) a
theorem mod24 (a : Int) : 0 ≤ a % 16777216 ∧ a % 16777216 < 16777216 := ⟨Int.emod_nonneg _ (by decide), Int.emod_lt_of_pos _ (by decide)⟩
theorem s_Low (a : Int) (h : Heap) : To M n_seq_Num_Low [.i .u32 a] h (.i .u32 (nLow a)) h := by
  refine To_body rfl F_seq_Num_Low (Nat.le_of_ble_eq_true rfl) ?_
  simp only [go_sem, Nat.reduceLT, Nat.reduceLeDiff, Nat.reduceEqDiff, Nat.reduceAdd, Nat.reduceMul, Nat.reduceSub, Int.reduceLT, Int.reduceLE, Int.reduceEq, Int.reduceNe, Int.reduceToNat, Int.reduceAdd, Int.reduceSub, Int.reduceMul, Int.reduceNeg, Int.reduceBEq, Int.reduceBNe, Nat.reduceBEq, b_seq_Num_Low, mask32]
  have := mod24 a
  rw [wrap_u32 (by omega) (by omega), nLow]
theorem s_Of (a : Int) (h : Heap) : To M n_seq_Of [.i .i64 a] h (.i .u32 (nLow a)) h := by
  refine To_body rfl F_seq_Of (Nat.le_of_ble_eq_true rfl) ?_
  simp only [go_sem, Nat.reduceLT, Nat.reduceLeDiff, Nat.reduceEqDiff, Nat.reduceAdd, Nat.reduceMul, Nat.reduceSub, Int.reduceLT, Int.reduceLE, Int.reduceEq, Int.reduceNe, Int.reduceToNat, Int.reduceAdd, Int.reduceSub, Int.reduceMul, Int.reduceNeg, Int.reduceBEq, Int.reduceBNe, Nat.reduceBEq, b_seq_Of, mask32]
  have := mod24 (IntKind.u32.wrap a)
  rw [wrap_u32 (by omega) (by omega), wrap_u32_mod, nLow]
  omega
theorem s_Add (a n : Int) (h : Heap) : To M n_seq_Num_Add [.i .u32 a, .i .i64 n] h (.i .u32 (nAdd a n)) h := by
  refine To_body rfl F_seq_Num_Add (Nat.le_of_ble_eq_true rfl) ?_
  simp only [go_sem, Nat.reduceLT, Nat.reduceLeDiff, Nat.reduceEqDiff, Nat.reduceAdd, Nat.reduceMul, Nat.reduceSub, Int.reduceLT, Int.reduceLE, Int.reduceEq, Int.reduceNe, Int.reduceToNat, Int.reduceAdd, Int.reduceSub, Int.reduceMul, Int.reduceNeg, Int.reduceBEq, Int.reduceBNe, Nat.reduceBEq, b_seq_Num_Add, Pc_to (s_Low _ _), Pc_to (s_Of _ _), mask64]
  have h1 := mod24 n
  have h2 := mod24 a
  rw [nLow, nLow, wrap_i64 (x := n % 16777216) (by omega) (by omega), wrap_i64 (x := a % 16777216) (by omega) (by omega), wrap_i64 (by omega) (by omega), nAdd]
  omega
theorem s_To (a b : Int) (h : Heap) : To M n_seq_Num_To [.i .u32 a, .i .u32 b] h (.i .i64 (nTo a b)) h := by
  refine To_body rfl F_seq_Num_To (Nat.le_of_ble_eq_true rfl) ?_
  simp only [go_sem, Nat.reduceLT, Nat.reduceLeDiff, Nat.reduceEqDiff, Nat.reduceAdd, Nat.reduceMul, Nat.reduceSub, Int.reduceLT, Int.reduceLE, Int.reduceEq, Int.reduceNe, Int.reduceToNat, Int.reduceAdd, Int.reduceSub, Int.reduceMul, Int.reduceNeg, Int.reduceBEq, Int.reduceBNe, Nat.reduceBEq, b_seq_Num_To, mask32]
  have := mod24 (IntKind.u32.wrap (b - a))
  rw [wrap_u32 (x := IntKind.u32.wrap (b - a) % 16777216) (by omega) (by omega), wrap_i64 (by omega) (by omega), wrap_u32_mod, nTo]
  omega
theorem s_Max (c a b : Int) (h : Heap) : To M n_seq_Max [.i .u32 c, .i .u32 a, .i .u32 b] h (.i .u32 (if nTo c b ≤ nTo c a then nLow a else nLow b)) h := by
  refine To_body rfl F_seq_Max (Nat.le_of_ble_eq_true rfl) ?_
  by_cases e : nTo c b ≤ nTo c a
  · simp only [go_sem, Nat.reduceLT, Nat.reduceLeDiff, Nat.reduceEqDiff, Nat.reduceAdd, Nat.reduceMul, Nat.reduceSub, Int.reduceLT, Int.reduceLE, Int.reduceEq, Int.reduceNe, Int.reduceToNat, Int.reduceAdd, Int.reduceSub, Int.reduceMul, Int.reduceNeg, Int.reduceBEq, Int.reduceBNe, Nat.reduceBEq, b_seq_Max, Pc_to (s_To _ _ _), e, Pc_to (s_Low _ _)]
  · simp only [go_sem, Nat.reduceLT, Nat.reduceLeDiff, Nat.reduceEqDiff, Nat.reduceAdd, Nat.reduceMul, Nat.reduceSub, Int.reduceLT, Int.reduceLE, Int.reduceEq, Int.reduceNe, Int.reduceToNat, Int.reduceAdd, Int.reduceSub, Int.reduceMul, Int.reduceNeg, Int.reduceBEq, Int.reduceBNe, Nat.reduceBEq, b_seq_Max, Pc_to (s_To _ _ _), e, Pc_to (s_Low _ _)]
end Am
end Go.Proofs.YtcndgnddipbbgaaGreat
