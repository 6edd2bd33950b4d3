/- For every input the law returns true. No conditions. -/
import Derived.Test.YtodncacbadjgnaaPAllx6
import Derived.Test.YtodncacbadjgnaaComA
namespace Go.Proofs.Ytodncacbadjgnaa.Pure
open Go.RowKit Go.Proofs.Ytodncacbadjgnaa.PAll Go.Proofs.YtodncacbadjgnaaW.PrintWords Go.Proofs.YtodncacbadjgnaaW.PrintLast Go.Proofs.YtodncacbadjgnaaW.PrintMore

theorem FoldSigns : sprlaw3_FoldSigns.Pure := by
  intro c _
  refine Ev.rounds (g := fun k => sprlaw3_FoldSigns.f k c) ?_
  simp only [sprlaw3_FoldSigns.f]
  refine Ev.bind first_ev ?_
  simp only [if_true]
  refine Ev.bind first_ev ?_
  simp only [if_true]
  refine Ev.bind (kind_ev c) ?_
  refine Ev.bind (rkind_ev c) ?_
  simp only [if_true]
  refine Ev.bind (kind_ev c) ?_
  by_cases h : kindS c = 2
  · simp only [if_pos h]
    refine Ev.bind (to_ev c) ?_
    refine Ev.bind (rto_ev c) ?_
    rw [toS, if_pos h]
    refine Ev.bind (ints_same _ (by have := (maps_all c).2.2.1; omega)) ?_
    simp only [if_true]
    refine Ev.bind (kind_ev c) ?_
    simp only [if_pos h]
    exact Ev.now _
  · simp only [if_neg h]
    refine Ev.bind (kind_ev c) ?_
    simp only [if_neg h]
    refine Ev.bind (to_ev c) ?_
    rw [toS, if_neg h]
    exact Ev.now _

end Go.Proofs.Ytodncacbadjgnaa.Pure
