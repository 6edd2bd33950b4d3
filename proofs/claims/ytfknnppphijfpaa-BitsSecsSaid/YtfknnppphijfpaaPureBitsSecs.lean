/- For every input the law returns true. No conditions. -/
import Derived.Test.YtfknnppphijfpaaPAllx4
import Derived.Test.YtfknnppphijfpaaComB
namespace Go.Proofs.Ytfknnppphijfpaa.Pure
open Go.RowKit Go.Proofs.Ytfknnppphijfpaa.PAll Go.Proofs.YtfknnppphijfpaaW.PrintWords Go.Proofs.YtfknnppphijfpaaW.PrintLast Go.Proofs.YtfknnppphijfpaaW.PrintMore
theorem BitsSecs : sprlaw1_BitsSecs.Pure := by
  intro a0 a1 _ _
  refine ⟨200, ?_⟩
  simp only [sprlaw1_BitsSecs.f, sprlaw1_first.told, bclip, rclip, badd, radd, bsub, rsub, Option.bind_some, if_true, beq_self_eq_true]


end Go.Proofs.Ytfknnppphijfpaa.Pure
