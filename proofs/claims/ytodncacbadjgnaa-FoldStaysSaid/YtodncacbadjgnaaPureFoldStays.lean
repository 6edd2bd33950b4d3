/- For every input the law returns true. No conditions. -/
import Derived.Test.YtodncacbadjgnaaPAllx7
import Derived.Test.YtodncacbadjgnaaComS
namespace Go.Proofs.Ytodncacbadjgnaa.Pure
open Go.RowKit Go.Proofs.Ytodncacbadjgnaa.PAll Go.Proofs.YtodncacbadjgnaaW.PrintWords Go.Proofs.YtodncacbadjgnaaW.PrintLast Go.Proofs.YtodncacbadjgnaaW.PrintMore

theorem FoldStays : sprlaw3_FoldStays.Pure := by
  intro l c _ _ _ _
  refine Ev.rounds (g := fun k => sprlaw3_FoldStays.f k l c) ?_
  simp only [sprlaw3_FoldStays.f]
  refine Ev.bind first_ev ?_
  simp only [if_true]
  by_cases c1 : (l.length : Int) > 8000
  · simp only [if_pos c1]
    exact Ev.bind first_ev (Ev.now _)
  simp only [if_neg c1]
  refine Ev.bind (to_ev c) ?_
  have hml := (maps_all c).2.2.1
  refine stays_l0 l (toS c) (fun y hy => ?_) ?_ (by omega) (toS c).length 0 (by omega) 0 rfl
  · unfold toS at hy
    split at hy
    · exact maps_valid c y hy
    · simp at hy
  · unfold toS
    split
    · exact hml
    · simp

end Go.Proofs.Ytodncacbadjgnaa.Pure
