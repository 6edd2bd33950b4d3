/- For every input the law returns true. No conditions. -/
import Derived.Test.YtfknnppphijfpaaPAllx4
import Derived.Test.YtfknnppphijfpaaComB
namespace Go.Proofs.Ytfknnppphijfpaa.Pure
open Go.RowKit Go.Proofs.Ytfknnppphijfpaa.PAll Go.Proofs.YtfknnppphijfpaaW.PrintWords Go.Proofs.YtfknnppphijfpaaW.PrintLast Go.Proofs.YtfknnppphijfpaaW.PrintMore
theorem BitsSaturate : sprlaw1_BitsSaturate.Pure := by
  intro a b c _ _ _
  refine ⟨200, ?_⟩
  have ha := clip_bd a
  have hb := clip_bd b
  have hc := clip_bd c
  have hab : 0 ≤ mn (clip a + clip b) 2147483648 ∧ mn (clip a + clip b) 2147483648 ≤ 2147483648 := ⟨mn_ge (by omega) (by omega), mn_bd.1⟩
  have hbc : 0 ≤ mn (clip b + clip c) 2147483648 ∧ mn (clip b + clip c) 2147483648 ≤ 2147483648 := ⟨mn_ge (by omega) (by omega), mn_bd.1⟩
  simp only [sprlaw1_BitsSaturate.f, sprlaw1_first.told, bclip, badd, bsub, Option.bind_some, if_true]
  rw [clip_same hab.1 hab.2, clip_same hbc.1 hbc.2]
  generalize clip a = A at *
  generalize clip b = B at *
  generalize clip c = C at *
  have e1 : mn (B + A) 2147483648 = mn (A + B) 2147483648 := by rw [Int.add_comm]
  have e2 : mn (A + mn (B + C) 2147483648) 2147483648 = mn (mn (A + B) 2147483648 + C) 2147483648 := by
    unfold mn; repeat' split
    all_goals omega
  have e3 : mn (mn (A + B) 2147483648 + C) 2147483648 ≥ mn (A + B) 2147483648 := by
    unfold mn; repeat' split
    all_goals omega
  have e4 : mx (mn (A + B) 2147483648 - A) 0 ≤ B := by
    unfold mn mx; repeat' split
    all_goals omega
  have e5 : mx (A - B) 0 ≥ 0 := by unfold mx; split <;> omega
  have e6 : mx (A - B) 0 ≤ 2147483648 := by unfold mx; split <;> omega
  rw [if_pos hab.1, if_pos hab.2, if_pos e5, if_pos e6, if_pos e1.symm, if_pos e2.symm, if_pos e3, if_pos e4]
  simp

end Go.Proofs.Ytfknnppphijfpaa.Pure
