/- For every input the law returns true. No conditions. -/
import Derived.Test.YtfknnppphijfpaaPAllx7
import Derived.Test.YtfknnppphijfpaaComH
namespace Go.Proofs.Ytfknnppphijfpaa.Pure
open Go.RowKit Go.Proofs.Ytfknnppphijfpaa.PAll Go.Proofs.YtfknnppphijfpaaW.PrintWords Go.Proofs.YtfknnppphijfpaaW.PrintLast Go.Proofs.YtfknnppphijfpaaW.PrintMore

theorem BitsTexts : sprlaw1_BitsTexts.Pure := by
  intro l s _ hs hw hz
  have hb : ∀ x ∈ l, 0 ≤ x ∧ x ≤ 255 := fun x hx => wf_u8 (hw x hx)
  have yes : Ev (fun k => sprlaw1_BitsTexts.j0 k l s true) true := by
    refine Ev.step (fun k => ?_) (Ev.bind first_ev (Ev.now _))
    simp only [sprlaw1_BitsTexts.j0, if_true]
  refine Ev.rounds (g := fun k => sprlaw1_BitsTexts.f k l s) ?_
  simp only [sprlaw1_BitsTexts.f]
  refine Ev.bind first_ev ?_
  simp only [if_true]
  by_cases c1 : (l.length : Int) > 8000
  · simp only [if_pos c1]; exact yes
  simp only [if_neg c1]
  by_cases c2 : (s.size : Int) > 8000
  · simp only [c2, decide_true]; exact yes
  simp only [c2, decide_false]
  refine Ev.step (f := fun k => _) (fun k => by rw [sprlaw1_BitsTexts.j0, if_neg (by decide)]) ?_
  refine Ev.bind (bunhex s (by omega)) ?_
  refine Ev.bind (runhex s (by omega)) ?_
  refine Ev.bind first_ev ?_
  simp only [if_true]
  refine Ev.bind (bhex l hb (by omega)) ?_
  refine Ev.bind (rhex l hb (by omega)) ?_
  simp only [if_true, bytes_same, Option.bind_some, beq_self_eq_true]
  exact Ev.now _

end Go.Proofs.Ytfknnppphijfpaa.Pure
