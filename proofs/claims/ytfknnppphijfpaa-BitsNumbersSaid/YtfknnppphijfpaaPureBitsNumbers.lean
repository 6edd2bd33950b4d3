/- For every input the law returns true. No conditions. -/
import Derived.Test.YtfknnppphijfpaaPAllx5
import Derived.Test.YtfknnppphijfpaaComN
namespace Go.Proofs.Ytfknnppphijfpaa.Pure
open Go.RowKit Go.Proofs.Ytfknnppphijfpaa.PAll Go.Proofs.YtfknnppphijfpaaW.PrintWords Go.Proofs.YtfknnppphijfpaaW.PrintLast Go.Proofs.YtfknnppphijfpaaW.PrintMore

theorem BitsNumbers : sprlaw1_BitsNumbers.Pure := by
  intro n w l a _ _ _ hs _ _
  refine Ev.rounds (g := fun k => sprlaw1_BitsNumbers.f k n w l a) ?_
  simp only [sprlaw1_BitsNumbers.f, copy_eq l (by omega), Option.bind_some]
  refine Ev.bind first_ev ?_
  simp only [if_true]
  by_cases hl : (l.length : Int) > 8000
  · simp only [if_pos hl]
    exact Ev.bind first_ev (Ev.now _)
  · simp only [if_neg hl]
    refine Ev.bind (bput n w) ?_
    refine Ev.bind (rput n w) ?_
    refine Ev.bind (bget l a w (by omega)) ?_
    refine Ev.bind (rget l a w (by omega)) ?_
    refine Ev.bind first_ev ?_
    simp only [if_true, bytes_same, Option.bind_some]
    exact Ev.now _

end Go.Proofs.Ytfknnppphijfpaa.Pure
