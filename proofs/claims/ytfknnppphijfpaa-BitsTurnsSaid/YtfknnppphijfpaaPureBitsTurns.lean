/- For every input the law returns true. No conditions. -/
import Derived.Test.YtfknnppphijfpaaPAllx2
import Derived.Test.YtfknnppphijfpaaComA
namespace Go.Proofs.Ytfknnppphijfpaa.Pure
open Go.RowKit Go.Proofs.Ytfknnppphijfpaa.PAll Go.Proofs.YtfknnppphijfpaaW.PrintWords Go.Proofs.YtfknnppphijfpaaW.PrintLast Go.Proofs.YtfknnppphijfpaaW.PrintMore

theorem BitsTurns : sprlaw1_BitsTurns.Pure := by
  intro x n m hx hn hm
  have hx := wf_u32 hx
  have hn := wf_i64 hn
  have hm := wf_i64 hm
  have yes : Ev (fun k => sprlaw1_BitsTurns.j0 k x n m true) true := by
    refine Ev.step (fun k => ?_) (Ev.bind first_ev (Ev.now _))
    simp only [sprlaw1_BitsTurns.j0, if_true]
  refine Ev.rounds (g := fun k => sprlaw1_BitsTurns.f k x n m) ?_
  simp only [sprlaw1_BitsTurns.f]
  refine Ev.bind first_ev ?_
  simp only [if_true]
  by_cases c1 : n < (-1000)
  · simp only [if_pos c1]; exact yes
  simp only [if_neg c1]
  by_cases c2 : n > 1000
  · simp only [if_pos c2]; exact yes
  simp only [if_neg c2]
  by_cases c3 : m < (-1000)
  · simp only [if_pos c3]; exact yes
  simp only [if_neg c3]
  by_cases c4 : m > 1000
  · simp only [c4, decide_true]; exact yes
  simp only [c4, decide_false]
  have b1 := rot_lt x n hx.1 hx.2
  refine Ev.step (f := fun k => (sprlaw1_first.f k).bind fun t => if t = true then some true else some false) (fun k => ?_) ?_
  · simp only [sprlaw1_BitsTurns.j0, Bool.false_eq_true, if_false, turn x n hx.1 hx.2, turn x 32 hx.1 hx.2, Option.bind_some]
    simp only [wrap_small (n := -n) (by omega) (by omega), wrap_small (n := n + m) (by omega) (by omega)]
    simp only [turn _ (-n) b1.1 b1.2, turn _ m b1.1 b1.2, turn x (n + m) hx.1 hx.2, turn_turn x n _ hx.1 hx.2, Option.bind_some]
    have e0 : ((rot x.toNat (((n + -n) % 32).toNat) : Nat) : Int) = x := by
      rw [show ((n + -n) % 32).toNat = 0 by omega, rot_none _ (by omega)]; omega
    have e1 : ((rot x.toNat (((32 : Int) % 32).toNat) : Nat) : Int) = x := by
      rw [show ((32 : Int) % 32).toNat = 0 by decide, rot_none _ (by omega)]; omega
    rw [if_pos e0, if_pos e1, beq_self_eq_true]
  · refine Ev.bind first_ev ?_
    simp only [if_true]
    exact Ev.now _

end Go.Proofs.Ytfknnppphijfpaa.Pure
