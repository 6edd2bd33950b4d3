/- For every input the law returns true. No conditions. -/
import Derived.Test.YtfidpocajehelaaPAllx3
import Derived.Test.YtfidpocajehelaaComA
namespace Go.Proofs.Ytfidpocajehelaa.Pure
open Go.RowKit Go.Proofs.Ytfidpocajehelaa.PAll Go.Proofs.YtfidpocajehelaaW.PrintWords Go.Proofs.YtfidpocajehelaaW.PrintLast Go.Proofs.YtfidpocajehelaaW.PrintMore

theorem PctSets : sprlaw6_PctSets.Pure := by
  intro s c _ hc
  have hc := wf_u8 hc
  refine Ev.rounds (g := fun k => sprlaw6_PctSets.f k s c) ?_
  simp only [sprlaw6_PctSets.f]
  refine Ev.bind first_ev ?_
  simp only [if_true]
  refine Ev.bind (in_ev s c hc.1 hc.2) ?_
  refine Ev.bind (rin_ev s c hc.1 hc.2) ?_
  simp only [beq_self_eq_true]
  exact Ev.now _

end Go.Proofs.Ytfidpocajehelaa.Pure
