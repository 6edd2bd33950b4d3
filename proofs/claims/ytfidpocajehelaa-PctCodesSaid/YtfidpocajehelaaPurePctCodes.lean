/- For every input the law returns true. No conditions. -/
import Derived.Test.YtfidpocajehelaaPAllx5
import Derived.Test.YtfidpocajehelaaComE
namespace Go.Proofs.Ytfidpocajehelaa.Pure
open Go.RowKit Go.Proofs.Ytfidpocajehelaa.PAll Go.Proofs.YtfidpocajehelaaW.PrintWords Go.Proofs.YtfidpocajehelaaW.PrintLast Go.Proofs.YtfidpocajehelaaW.PrintMore

theorem rdec_l0 (s : ByteArray) (hs : s.size ≤ 100000) : ∀ (d i : Nat) (o : List Int), i + d = s.size → o.length ≤ i → ∀ i' : Int, i' = (i : Int) →
    Ev (fun k => sprref1_Unpercent.l0 k s o i') (o ++ decL ((bytesOf s).drop i)) := by
  have hl := bytesOf_length s
  have hbd := bytesOf_bd s
  intro d
  induction d using Nat.strongRecOn with
  | _ d ih =>
  intro i o hi ho i' e
  subst e
  by_cases hd : d = 0
  · refine Ev.step (fun k => ?_) (Ev.now _)
    rw [sprref1_Unpercent.l0, if_neg (by omega), List.drop_eq_nil_of_le (by omega)]
    simp [decL]
  have e1 : wrap64 ((i : Int) + 1) = ((i + 1 : Nat) : Int) := by rw [wrap_small (by omega) (by omega)]; omega
  have e2 : wrap64 ((i : Int) + 2) = ((i + 2 : Nat) : Int) := by rw [wrap_small (by omega) (by omega)]; omega
  have hlt : i < (bytesOf s).length := by omega
  have b0 := bt_at' s i hlt
  have no : ∀ (h : decL ((bytesOf s).drop i) = (bytesOf s)[i] :: decL ((bytesOf s).drop (i + 1))), Ev (fun k => sprref1_Unpercent.j1 k s o (i : Int) false) (o ++ decL ((bytesOf s).drop i)) := by
    intro h
    have := ih (d - 1) (by omega) (i + 1) (o ++ [(bytesOf s)[i]]) (by omega) (by simp; omega) (wrap64 ((i : Int) + 1)) (by rw [wrap_small (by omega) (by omega)]; omega)
    rw [List.append_assoc, List.singleton_append, ← h] at this
    refine Ev.step (fun k => ?_) this
    rw [sprref1_Unpercent.j1, if_neg (by decide), if_pos (by omega), if_pos (by omega), if_pos (by omega), b0]
  by_cases c1 : bt s (i : Int) = 37
  case neg =>
    refine Ev.step (fun k => ?_) (no ?_)
    · rw [sprref1_Unpercent.l0, if_pos (by omega), if_pos (by omega), if_neg c1]
    · rw [List.drop_eq_getElem_cons hlt, decL_ne _ _ (by rw [← b0]; exact c1)]
  by_cases c2 : ((i + 2 : Nat) : Int) < (s.size : Int)
  case neg =>
    refine Ev.step (fun k => ?_) (no ?_)
    · rw [sprref1_Unpercent.l0, if_pos (by omega), if_pos (by omega), if_pos c1, e2, if_neg c2]
    · rw [List.drop_eq_getElem_cons hlt, decL_short _ _ (by rw [List.length_drop]; omega)]
  have b1 := bt_at' s (i + 1) (by omega)
  have b2 := bt_at' s (i + 2) (by omega)
  have r1 := hbd ((bytesOf s)[i + 1]'(by omega)) (List.getElem_mem _)
  have r2 := hbd ((bytesOf s)[i + 2]'(by omega)) (List.getElem_mem _)
  have d3 := drop_three (bytesOf s) i (by omega)
  refine Ev.step (f := fun k => (sprref1_Digit.f k ((bytesOf s)[i + 1]'(by omega))).bind fun t188 => if t188 ≥ 0 then ((sprref1_Digit.f k ((bytesOf s)[i + 2]'(by omega))).bind fun t189 => (sprref1_Unpercent.j1 k s o (i : Int) (decide (t189 ≥ 0)))) else (sprref1_Unpercent.j1 k s o (i : Int) false)) (fun k => ?_) ?_
  · rw [sprref1_Unpercent.l0, if_pos (by omega), if_pos (by omega), if_pos c1, e2, if_pos c2, e1, if_pos (by omega), if_pos (by omega), b1, b2]
    simp only [if_pos (show (0 : Int) ≤ ((i + 2 : Nat) : Int) by omega)]
  refine Ev.bind (digit_ev _ r1.1 r1.2) ?_
  rw [b0] at c1
  have bad : ¬ (0 ≤ dig ((bytesOf s)[i + 1]'(by omega)) ∧ 0 ≤ dig ((bytesOf s)[i + 2]'(by omega))) → decL ((bytesOf s).drop i) = (bytesOf s)[i] :: decL ((bytesOf s).drop (i + 1)) := by
    intro c3
    rw [d3, decL, if_neg (fun h => c3 h.2), List.drop_eq_getElem_cons (show i + 1 < (bytesOf s).length by omega), List.drop_eq_getElem_cons (show i + 1 + 1 < (bytesOf s).length by omega)]
  by_cases c3 : dig ((bytesOf s)[i + 1]'(by omega)) ≥ 0
  case neg =>
    simp only [if_neg c3]
    exact no (bad (fun h => c3 h.1))
  simp only [if_pos c3]
  refine Ev.bind (digit_ev _ r2.1 r2.2) ?_
  by_cases c4 : dig ((bytesOf s)[i + 2]'(by omega)) ≥ 0
  case neg =>
    simp only [decide_eq_false c4]
    exact no (bad (fun h => c4 h.2))
  simp only [decide_eq_true c4]
  refine Ev.step (f := fun k => (sprref1_Digit.f k ((bytesOf s)[i + 1]'(by omega))).bind fun t190 => ((sprref1_Digit.f k ((bytesOf s)[i + 2]'(by omega))).bind fun t191 => (sprref1_Unpercent.l0 k s (o ++ [comb t190 t191]) (wrap64 (((i + 2 : Nat) : Int) + 1))))) (fun k => ?_) ?_
  · rw [sprref1_Unpercent.j1, if_pos rfl, e1, if_pos (by omega), if_pos (by omega), b1, e2, b2]
    simp only [if_pos (show (0 : Int) ≤ ((i + 2 : Nat) : Int) by omega), if_pos c2, if_pos (show o.length < 140737488355328 by omega)]
    rfl
  refine Ev.bind (digit_ev _ r1.1 r1.2) ?_
  refine Ev.bind (digit_ev _ r2.1 r2.2) ?_
  have h := ih (d - 3) (by omega) (i + 3) (o ++ [comb (dig ((bytesOf s)[i + 1]'(by omega))) (dig ((bytesOf s)[i + 2]'(by omega)))]) (by omega) (by simp; omega) (wrap64 (((i + 2 : Nat) : Int) + 1)) (by rw [wrap_small (by omega) (by omega)]; omega)
  rw [d3, decL, if_pos ⟨c1, c3, c4⟩]
  rw [List.append_assoc, List.singleton_append] at h
  exact h
theorem rdec_ev (s : ByteArray) (hs : s.size ≤ 100000) : Ev (fun k => sprref1_Unpercent.f k s) (decL (bytesOf s)) := by
  have := rdec_l0 s hs s.size 0 [] (by omega) (by simp) 0 rfl
  rwa [List.nil_append, List.drop_zero] at this
theorem PctCodes : sprlaw6_PctCodes.Pure := by
  intro set l s _ _ hs hw hz
  have hb : ∀ x ∈ l, 0 ≤ x ∧ x ≤ 255 := fun x hx => wf_u8 (hw x hx)
  have yes : Ev (fun k => sprlaw6_PctCodes.j0 k set l s true) true := by
    refine Ev.step (fun k => ?_) (Ev.bind first_ev (Ev.now _))
    simp only [sprlaw6_PctCodes.j0, if_true]
  refine Ev.rounds (g := fun k => sprlaw6_PctCodes.f k set l s) ?_
  simp only [sprlaw6_PctCodes.f]
  refine Ev.bind first_ev ?_
  simp only [if_true]
  by_cases c1 : (l.length : Int) > 8000
  · simp only [if_pos c1]; exact yes
  simp only [if_neg c1]
  by_cases c2 : (s.size : Int) > 8000
  · simp only [c2, decide_true]; exact yes
  simp only [c2, decide_false]
  refine Ev.step (f := fun k => _) (fun k => by rw [sprlaw6_PctCodes.j0, if_neg (by decide), copy_eq l (by omega), Option.bind_some]) ?_
  refine Ev.bind first_ev ?_
  simp only [if_true]
  refine Ev.bind (enc_ev set l hb (by omega)) ?_
  refine Ev.bind (renc_ev set l hb (by omega)) ?_
  simp only [if_true]
  refine Ev.bind (dec_ev s (by omega)) ?_
  refine Ev.bind (rdec_ev s (by omega)) ?_
  simp only [if_true, bytes_same, Option.bind_some]
  exact Ev.now _

end Go.Proofs.Ytfidpocajehelaa.Pure
