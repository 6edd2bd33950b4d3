/- For every input the law returns true. No conditions. -/
import Derived.Test.YtfidpocajehelaaPAllx6
import Derived.Test.YtfidpocajehelaaComE
namespace Go.Proofs.Ytfidpocajehelaa.Pure
open Go.RowKit Go.Proofs.Ytfidpocajehelaa.PAll Go.Proofs.YtfidpocajehelaaW.PrintWords Go.Proofs.YtfidpocajehelaaW.PrintLast Go.Proofs.YtfidpocajehelaaW.PrintMore

theorem rise_tab : ∀ c : Fin 256, (inS 1 (c.val : Int) = true → inS 3 (c.val : Int) = true) ∧ (inS 3 (c.val : Int) = true → inS 5 (c.val : Int) = true) ∧ (inS 5 (c.val : Int) = true → inS 6 (c.val : Int) = true) ∧ (inS 6 (c.val : Int) = true → inS 7 (c.val : Int) = true) := by decide +kernel
theorem rise_end (s c : Int) (a b : List Int) (ha : ∀ x ∈ a, 0 ≤ x ∧ x ≤ 255) (hb : ∀ x ∈ b, 0 ≤ x ∧ x ≤ 255) (hla : a.length ≤ 8000) (hlb : b.length ≤ 8000) :
    Ev (fun k => sprlaw6_PctRise.l0 k s c a b [1, 3, 5, 6, 7] 5) true := by
  have l1 := encL_length s a
  have l2 := encL_length s b
  refine Ev.step (f := fun k => _) (fun k => by rw [sprlaw6_PctRise.l0, if_neg (by decide)]) ?_
  refine Ev.bind first_ev ?_
  simp only [if_true, copy_eq a (by omega), Option.bind_some, if_pos (show a.length + b.length < 140737488355328 by omega)]
  refine Ev.bind (enc_ev s (a ++ b) (fun x hx => (List.mem_append.mp hx).elim (ha x) (hb x)) (by rw [List.length_append]; omega)) ?_
  refine Ev.bind (enc_ev s a ha (by omega)) ?_
  refine Ev.bind (enc_ev s b hb (by omega)) ?_
  simp only [strOfNums_size, if_pos (show (encL s a).length + (encL s b).length ≤ 9223372036854775807 by omega)]
  have e : (strOfNums (encL s (a ++ b))).toList = (strOfNums (encL s a) ++ strOfNums (encL s b)).toList := by
    rw [encL_append, Lib.toList_data, Lib.toList_data, strOfNums_data, ByteArray.data_append, Array.toList_append, strOfNums_data, strOfNums_data, List.map_append]
  rw [e, beq_self_eq_true]
  exact Ev.now _
theorem rise_one (s c : Int) (h0 : 0 ≤ c) (h1 : c ≤ 255) (a b : List Int) (i : Nat) (hi : i < 4) (x y : Int) (hx : rd [1, 3, 5, 6, 7] (i : Int) = x) (hy : rd [1, 3, 5, 6, 7] ((i + 1 : Nat) : Int) = y) (hxy : inS x c = true → inS y c = true)
    (h : Ev (fun k => sprlaw6_PctRise.l0 k s c a b [1, 3, 5, 6, 7] ((i + 2 : Nat) : Int)) true) : Ev (fun k => sprlaw6_PctRise.l0 k s c a b [1, 3, 5, 6, 7] ((i + 1 : Nat) : Int)) true := by
  have e1 : wrap64 (((i + 1 : Nat) : Int) - 1) = (i : Int) := by rw [wrap_small (by omega) (by omega)]; omega
  have e2 : wrap64 (((i + 1 : Nat) : Int) + 1) = ((i + 2 : Nat) : Int) := by rw [wrap_small (by omega) (by omega)]; omega
  refine Ev.step (f := fun k => _) (fun k => by rw [sprlaw6_PctRise.l0, if_pos (by simp only [List.length_cons, List.length_nil]; omega), e1, if_pos (by omega), if_pos (by simp only [List.length_cons, List.length_nil]; omega), hx, hy, e2]) ?_
  refine Ev.bind (in_ev x c h0 h1) ?_
  by_cases cx : inS x c = true
  · simp only [if_pos cx, if_pos (show (0 : Int) ≤ ((i + 1 : Nat) : Int) by omega)]
    refine Ev.bind (in_ev y c h0 h1) ?_
    simp only [if_pos (hxy cx)]
    exact h
  · simp only [if_neg cx]
    exact h
theorem PctRise : sprlaw6_PctRise.Pure := by
  intro s c a b _ hc _ _ hwa _ _ hwb
  have hc := wf_u8 hc
  have ha : ∀ x ∈ a, 0 ≤ x ∧ x ≤ 255 := fun x hx => wf_u8 (hwa x hx)
  have hb : ∀ x ∈ b, 0 ≤ x ∧ x ≤ 255 := fun x hx => wf_u8 (hwb x hx)
  have yes : Ev (fun k => sprlaw6_PctRise.j0 k s c a b true) true := by
    refine Ev.step (fun k => ?_) (Ev.bind first_ev (Ev.now _))
    simp only [sprlaw6_PctRise.j0, if_true]
  refine Ev.rounds (g := fun k => sprlaw6_PctRise.f k s c a b) ?_
  simp only [sprlaw6_PctRise.f]
  refine Ev.bind first_ev ?_
  simp only [if_true]
  by_cases c1 : (a.length : Int) > 8000
  · simp only [if_pos c1]; exact yes
  simp only [if_neg c1]
  by_cases c2 : (b.length : Int) > 8000
  · simp only [c2, decide_true]; exact yes
  simp only [c2, decide_false]
  have t := at_byte (P := fun c => (inS 1 c = true → inS 3 c = true) ∧ (inS 3 c = true → inS 5 c = true) ∧ (inS 5 c = true → inS 6 c = true) ∧ (inS 6 c = true → inS 7 c = true)) rise_tab hc.1 hc.2
  have h := rise_end s c a b ha hb (by omega) (by omega)
  have h := rise_one s c hc.1 hc.2 a b 3 (by decide) 6 7 rfl rfl t.2.2.2 h
  have h := rise_one s c hc.1 hc.2 a b 2 (by decide) 5 6 rfl rfl t.2.2.1 h
  have h := rise_one s c hc.1 hc.2 a b 1 (by decide) 3 5 rfl rfl t.2.1 h
  have h := rise_one s c hc.1 hc.2 a b 0 (by decide) 1 3 rfl rfl t.1 h
  refine Ev.step (fun k => ?_) h
  rw [sprlaw6_PctRise.j0, if_neg (by decide)]
  rfl

end Go.Proofs.Ytfidpocajehelaa.Pure
