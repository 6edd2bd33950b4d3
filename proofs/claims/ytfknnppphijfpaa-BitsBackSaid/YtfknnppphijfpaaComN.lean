/- Numbers as bytes and back: what Put and Get come to, in both texts. No conditions. -/
import Derived.Test.YtfknnppphijfpaaPAllx5
import Derived.Test.YtfknnppphijfpaaComA
namespace Go.Proofs.Ytfknnppphijfpaa.Pure
open Go.RowKit Go.Proofs.Ytfknnppphijfpaa.PAll Go.Proofs.YtfknnppphijfpaaW.PrintWords Go.Proofs.YtfknnppphijfpaaW.PrintLast Go.Proofs.YtfknnppphijfpaaW.PrintMore

/-! ### a number as bytes -/
/-- The bytes of n, width of them. -/
def bytesN (n : Int) : Nat → List Int
  | 0 => []
  | w + 1 => n / 2 ^ (8 * w) % 256 :: bytesN n w
theorem bytesN_length (n : Int) (w : Nat) : (bytesN n w).length = w := by
  induction w with
  | zero => rfl
  | succ w ih => simp [bytesN, ih]
theorem bytesN_at (n : Int) : ∀ (w i : Nat) (h : i < w), (bytesN n w)[i]'(by rw [bytesN_length]; exact h) = n / 2 ^ (8 * (w - 1 - i)) % 256 := by
  intro w
  induction w with
  | zero => intro i h; omega
  | succ w ih =>
    intro i h
    cases i with
    | zero => simp [bytesN]
    | succ i =>
      simp only [bytesN, List.getElem_cons_succ]
      rw [ih i (by omega), show w + 1 - 1 - (i + 1) = w - 1 - i by omega]
theorem shr_eq (n : Int) (s : Nat) (h : s ≤ 64) : shr .i64 n (s : Int) = n / 2 ^ s := by
  unfold shr
  rw [show min ((s : Int)).toNat IntKind.i64.bits = s from by show min _ 64 = s; omega]
theorem put_wide (n : Int) (w : Int) (hw : 1 ≤ w) (hw' : w ≤ 6) : (decide ((shr .i64 n (wrap64 (8 * w))) > 0)) = decide (n / 2 ^ (8 * w.toNat) > 0) := by
  rw [wrap_small (by omega) (by omega), show 8 * w = ((8 * w.toNat : Nat) : Int) by omega, shr_eq _ _ (by omega)]
theorem put_wide' (n : Int) (w : Int) (hw : 1 ≤ w) (hw' : w ≤ 6) : (decide ((shr .i64 n (IntKind.u64.wrap (wrap64 (8 * w)))) > 0)) = decide (n / 2 ^ (8 * w.toNat) > 0) := by
  rw [wrap_small (by omega) (by omega), IntKind.wrap_u64, show (8 * w) % 18446744073709551616 = ((8 * w.toNat : Nat) : Int) by omega, shr_eq _ _ (by omega)]
/-- Is the number out of bounds? -/
def bad (n w : Int) : Bool := decide (w < 1) || decide (w > 6) || decide (n < 0) || decide (n / 2 ^ (8 * w.toNat) > 0)
theorem fill_set (n : Int) (w i : Nat) (h : i < w) : ((bytesN n w).take i ++ List.replicate (w - i) 0).set i (n / 2 ^ (8 * (w - 1 - i)) % 256) = (bytesN n w).take (i + 1) ++ List.replicate (w - (i + 1)) 0 := by
  have hr : w - i = (w - (i + 1)) + 1 := by omega
  have hl := bytesN_length n w
  rw [List.set_append_right _ _ (by simp; omega), List.take_succ_eq_append_getElem (by omega), hr, List.replicate_succ, bytesN_at n w i h]
  have : i - ((bytesN n w).take i).length = 0 := by simp; omega
  rw [this, List.set_cons_zero, List.append_assoc]
  rfl
theorem bput_l0 (n : Int) (w : Nat) (hw : w ≤ 6) : ∀ (d i : Nat), i + d = w → ∀ i' : Int, i' = (i : Int) →
    Ev (fun k => bits_Put.l0 k n (w : Int) ((bytesN n w).take i ++ List.replicate (w - i) 0) (w : Int) i') (bytesN n w, 0) := by
  have hl := bytesN_length n w
  intro d
  induction d with
  | zero =>
    intro i hi i' e
    subst e
    refine Ev.step (fun k => ?_) (Ev.now _)
    rw [bits_Put.l0, if_neg (by omega), List.take_of_length_le (by omega), show w - i = 0 by omega]
    simp
  | succ d ih =>
    intro i hi i' e
    subst e
    refine Ev.step (fun k => ?_) (ih (i + 1) (by omega) (wrap64 (i + 1)) (by rw [wrap_small (by omega) (by omega)]; omega))
    have e1 : wrap64 (8 * (wrap64 ((wrap64 ((w : Int) - 1)) - (i : Int)))) = ((8 * (w - 1 - i) : Nat) : Int) := by
      rw [wrap_small (n := (w : Int) - 1) (by omega) (by omega), wrap_small (n := (w : Int) - 1 - (i : Int)) (by omega) (by omega), wrap_small (by omega) (by omega)]
      omega
    rw [bits_Put.l0, if_pos (by omega), e1, if_pos (by omega), if_pos (by omega), if_pos (by simp; omega), shr_eq _ _ (by omega), Int.toNat_natCast, fill_set n w i (by omega)]
theorem bput (n w : Int) : Ev (fun k => bits_Put.f k n w) (if bad n w then (([] : List Int), 1) else (bytesN n w.toNat, 0)) := by
  have no : Ev (fun k => bits_Put.j0 k n w true) (([] : List Int), 1) := by
    refine Ev.step (fun k => ?_) (Ev.now _)
    rw [bits_Put.j0, if_pos rfl]
  unfold bad
  simp only [bits_Put.f]
  by_cases c1 : w < 1
  · simp only [if_pos c1, decide_eq_true c1, Bool.true_or, if_true]; exact no
  by_cases c2 : w > 6
  · simp only [if_neg c1, if_pos c2, decide_eq_true c2, Bool.or_true, Bool.true_or, if_true]; exact no
  by_cases c3 : n < 0
  · simp only [if_neg c1, if_neg c2, if_pos c3, decide_eq_true c3, Bool.or_true, Bool.true_or, if_true]; exact no
  have e0 : 0 ≤ wrap64 (8 * w) := by rw [wrap_small (by omega) (by omega)]; omega
  simp only [if_neg c1, if_neg c2, if_neg c3, if_pos e0, put_wide n w (by omega) (by omega), decide_eq_false c1, decide_eq_false c2, decide_eq_false c3, Bool.false_or]
  by_cases c4 : n / 2 ^ (8 * w.toNat) > 0
  · simp only [c4, decide_true, if_true]; exact no
  simp only [c4, decide_false, Bool.false_eq_true, if_false]
  obtain ⟨m, rfl⟩ := Int.eq_ofNat_of_zero_le (by omega : 0 ≤ w)
  have h := bput_l0 n m (by omega) m 0 (by omega) 0 rfl
  rw [List.take_zero, List.nil_append, Nat.sub_zero] at h
  refine Ev.step (fun k => ?_) h
  rw [bits_Put.j0, if_neg (by decide), if_pos (by omega), if_pos (by omega), Option.bind_some, Int.toNat_natCast, List.length_replicate]
theorem rput_l0 (n : Int) (w : Nat) (hw : w ≤ 6) : ∀ (d i : Nat), i + d = w → ∀ i' : Int, i' = (d : Int) - 1 →
    Ev (fun k => sprref1_Put.l0 k n ((bytesN n w).take i) i') (bytesN n w, 0) := by
  have hl := bytesN_length n w
  intro d
  induction d with
  | zero =>
    intro i hi i' e
    subst e
    refine Ev.step (fun k => ?_) (Ev.now _)
    rw [sprref1_Put.l0, if_neg (by omega), List.take_of_length_le (by omega)]
  | succ d ih =>
    intro i hi i' e
    subst e
    refine Ev.step (fun k => ?_) (ih (i + 1) (by omega) (wrap64 (((d + 1 : Nat) : Int) - 1 - 1)) (by rw [wrap_small (by omega) (by omega)]; omega))
    have e1 : IntKind.u64.wrap (wrap64 (8 * (((d + 1 : Nat) : Int) - 1))) = ((8 * (w - 1 - i) : Nat) : Int) := by
      rw [wrap_small (by omega) (by omega), IntKind.wrap_u64]
      omega
    rw [sprref1_Put.l0, if_pos (by omega), e1, if_pos (by omega), if_pos (by simp; omega), shr_eq _ _ (by omega), ← bytesN_at n w i (by omega), ← List.take_succ_eq_append_getElem]
theorem rput (n w : Int) : Ev (fun k => sprref1_Put.f k n w) (if bad n w then (([] : List Int), 1) else (bytesN n w.toNat, 0)) := by
  have no : Ev (fun k => sprref1_Put.j0 k n w true) (([] : List Int), 1) := by
    refine Ev.step (fun k => ?_) (Ev.now _)
    rw [sprref1_Put.j0, if_pos rfl]
  unfold bad
  simp only [sprref1_Put.f]
  by_cases c1 : w < 1
  · simp only [if_pos c1, decide_eq_true c1, Bool.true_or, if_true]; exact no
  by_cases c2 : w > 6
  · simp only [if_neg c1, if_pos c2, decide_eq_true c2, Bool.or_true, Bool.true_or, if_true]; exact no
  by_cases c3 : n < 0
  · simp only [if_neg c1, if_neg c2, if_pos c3, decide_eq_true c3, Bool.or_true, Bool.true_or, if_true]; exact no
  have e0 : 0 ≤ IntKind.u64.wrap (wrap64 (8 * w)) := by rw [wrap_small (by omega) (by omega), IntKind.wrap_u64]; omega
  simp only [if_neg c1, if_neg c2, if_neg c3, if_pos e0, put_wide' n w (by omega) (by omega), decide_eq_false c1, decide_eq_false c2, decide_eq_false c3, Bool.false_or]
  by_cases c4 : n / 2 ^ (8 * w.toNat) > 0
  · simp only [c4, decide_true, if_true]; exact no
  simp only [c4, decide_false, Bool.false_eq_true, if_false]
  obtain ⟨m, rfl⟩ := Int.eq_ofNat_of_zero_le (by omega : 0 ≤ w)
  have h := rput_l0 n m (by omega) m 0 (by omega) (wrap64 ((m : Int) - 1)) (wrap_small (by omega) (by omega))
  rw [List.take_zero] at h
  refine Ev.step (fun k => ?_) h
  rw [sprref1_Put.j0, if_neg (by decide)]
/-! ### bytes as a number -/
def step256 (n x : Int) : Int := Go.bits .or .i64 (wrap64 (n * 256)) (wrap64 x)
def numN (n : Int) : List Int → Int
  | [] => n
  | x :: l => numN (step256 n x) l
theorem bget_l0 (l : List Int) (hl : l.length ≤ 9223372036854775800) : ∀ (d i : Nat) (n : Int), i + d = l.length → ∀ i' : Int, i' = (i : Int) →
    Ev (fun k => bits_Get.l0 k n l (l.length : Int) i') (numN n (l.drop i), 0) := by
  intro d
  induction d with
  | zero =>
    intro i n hi i' e
    subst e
    refine Ev.step (fun k => ?_) (Ev.now _)
    rw [bits_Get.l0, if_neg (by omega), List.drop_eq_nil_of_le (by omega)]
    rfl
  | succ d ih =>
    intro i n hi i' e
    subst e
    have hlt : i < l.length := by omega
    rw [List.drop_eq_getElem_cons hlt, numN]
    refine Ev.step (fun k => ?_) (ih (i + 1) _ (by omega) (wrap64 (i + 1)) (by rw [wrap_small (by omega) (by omega)]; omega))
    rw [bits_Get.l0, if_pos (by omega), if_pos (by omega), if_pos (by omega), rd_at l i hlt]
    rfl
/-- What Get answers. -/
def got (l : List Int) (a w : Int) : Int × Int :=
  if w < 1 ∨ w > 6 ∨ a < 0 ∨ a > (l.length : Int) then (0, 1) else if (l.length : Int) - a < w then (0, 2) else (numN 0 ((l.drop a.toNat).take w.toNat), 0)
theorem bget (l : List Int) (a w : Int) (hl : l.length ≤ 4611686018427387904) : Ev (fun k => bits_Get.f k l a w) (got l a w) := by
  have no : Ev (fun k => bits_Get.j0 k l a w true) (0, 1) := by
    refine Ev.step (fun k => ?_) (Ev.now _)
    rw [bits_Get.j0, if_pos rfl]
  unfold got
  simp only [bits_Get.f]
  by_cases c1 : w < 1
  · simp only [c1, true_or, if_true]; exact no
  by_cases c2 : w > 6
  · simp only [if_neg c1, c2, true_or, or_true, if_true]; exact no
  by_cases c3 : a < 0
  · simp only [if_neg c1, if_neg c2, c3, true_or, or_true, if_true]; exact no
  simp only [if_neg c1, if_neg c2, if_neg c3]
  by_cases c4 : a > (l.length : Int)
  · simp only [c4, decide_true, or_true, if_true]; exact no
  rw [if_neg (by omega)]
  simp only [c4, decide_false]
  have e0 : wrap64 ((l.length : Int) - a) = (l.length : Int) - a := wrap_small (by omega) (by omega)
  by_cases c5 : (l.length : Int) - a < w
  · rw [if_pos c5]
    refine Ev.step (fun k => ?_) (Ev.now _)
    rw [bits_Get.j0, if_neg (by decide), e0, if_pos c5]
  · rw [if_neg c5]
    have e1 : wrap64 (a + w) = a + w := wrap_small (by omega) (by omega)
    have e2 : ((l.take (a + w).toNat).drop a.toNat) = ((l.drop a.toNat).take w.toNat) := by
      rw [List.drop_take]
      congr 1
      omega
    have h := bget_l0 ((l.drop a.toNat).take w.toNat) (by simp; omega) ((l.drop a.toNat).take w.toNat).length 0 0 (by omega) 0 rfl
    rw [List.drop_zero] at h
    refine Ev.step (fun k => ?_) h
    rw [bits_Get.j0, if_neg (by decide), e0, if_neg c5, if_pos (by omega), e1, if_pos (by omega), if_pos (by omega), e2]
theorem rget_l0 (l : List Int) (a w : Nat) (hw : w ≤ 6) (ha : a + w ≤ l.length) (hl : l.length ≤ 4611686018427387904) : ∀ (d i : Nat) (n : Int), i + d = w → ∀ i' : Int, i' = (i : Int) →
    Ev (fun k => sprref1_Get.l0 k l (a : Int) (w : Int) n i') (numN n (((l.drop a).take w).drop i), 0) := by
  intro d
  induction d with
  | zero =>
    intro i n hi i' e
    subst e
    refine Ev.step (fun k => ?_) (Ev.now _)
    rw [sprref1_Get.l0, if_neg (by omega), List.drop_eq_nil_of_le (by simp; omega)]
    rfl
  | succ d ih =>
    intro i n hi i' e
    subst e
    have hlt : i < ((l.drop a).take w).length := by simp; omega
    rw [List.drop_eq_getElem_cons hlt, numN]
    refine Ev.step (fun k => ?_) (ih (i + 1) _ (by omega) (wrap64 (i + 1)) (by rw [wrap_small (by omega) (by omega)]; omega))
    have e1 : wrap64 ((a : Int) + (i : Int)) = ((a + i : Nat) : Int) := by rw [wrap_small (by omega) (by omega)]; omega
    rw [sprref1_Get.l0, if_pos (by omega), e1, if_pos (by omega), if_pos (by omega), rd_at l (a + i) (by omega)]
    have e2 : ((l.drop a).take w)[i] = l[a + i]'(by omega) := by simp
    rw [e2]
    rfl
theorem rget (l : List Int) (a w : Int) (hl : l.length ≤ 4611686018427387904) : Ev (fun k => sprref1_Get.f k l a w) (got l a w) := by
  have no : Ev (fun k => sprref1_Get.j0 k l a w true) (0, 1) := by
    refine Ev.step (fun k => ?_) (Ev.now _)
    rw [sprref1_Get.j0, if_pos rfl]
  unfold got
  simp only [sprref1_Get.f]
  by_cases c1 : w < 1
  · simp only [c1, true_or, if_true]; exact no
  by_cases c2 : w > 6
  · simp only [if_neg c1, c2, true_or, or_true, if_true]; exact no
  by_cases c3 : a < 0
  · simp only [if_neg c1, if_neg c2, c3, true_or, or_true, if_true]; exact no
  simp only [if_neg c1, if_neg c2, if_neg c3]
  by_cases c4 : a > (l.length : Int)
  · simp only [c4, decide_true, or_true, if_true]; exact no
  rw [if_neg (by omega)]
  simp only [c4, decide_false]
  have e0 : wrap64 ((l.length : Int) - a) = (l.length : Int) - a := wrap_small (by omega) (by omega)
  by_cases c5 : (l.length : Int) - a < w
  · rw [if_pos c5]
    refine Ev.step (fun k => ?_) (Ev.now _)
    rw [sprref1_Get.j0, if_neg (by decide), e0, if_pos c5]
  · rw [if_neg c5]
    obtain ⟨a', rfl⟩ := Int.eq_ofNat_of_zero_le (by omega : 0 ≤ a)
    obtain ⟨w', rfl⟩ := Int.eq_ofNat_of_zero_le (by omega : 0 ≤ w)
    have h := rget_l0 l a' w' (by omega) (by omega) hl w' 0 0 (by omega) 0 rfl
    rw [List.drop_zero] at h
    refine Ev.step (fun k => ?_) h
    rw [sprref1_Get.j0, if_neg (by decide), e0, if_neg c5]
theorem bytes_same (l : List Int) : sprref_Bytes.f l l = some true := by simp [sprref_Bytes.f]
theorem copy_eq (l : List Int) (h : l.length < 140737488355328) : sprref_CopyBytes.f l = some l := by
  simp [sprref_CopyBytes.f, h]

end Go.Proofs.Ytfknnppphijfpaa.Pure
