/- For every input the law returns true. No conditions. -/
import Derived.Test.YtfknnppphijfpaaPAllx2
import Derived.Test.YtfknnppphijfpaaComA
namespace Go.Proofs.Ytfknnppphijfpaa.Pure
open Go.RowKit Go.Proofs.Ytfknnppphijfpaa.PAll Go.Proofs.YtfknnppphijfpaaW.PrintWords Go.Proofs.YtfknnppphijfpaaW.PrintLast Go.Proofs.YtfknnppphijfpaaW.PrintMore

theorem BitsSums : sprlaw1_BitsSums.Pure := by
  intro l0 a1 a2 _ hs hw h1 _
  obtain ⟨ns, rfl, hn⟩ := toN l0 hw
  have hx := wf_u32 h1
  rw [ofN_length] at hs
  refine Ev.rounds (g := fun k => sprlaw1_BitsSums.f k (ofN ns) a1 a2) ?_
  simp only [sprlaw1_BitsSums.f, turn a1 a2 hx.1 hx.2, rturn a1 a2 hx.1 hx.2, Option.bind_some]
  refine Ev.bind first_ev ?_
  simp only [if_true]
  by_cases hl : ((ofN ns).length : Int) > 8000
  · simp only [if_pos hl]
    exact Ev.bind first_ev (Ev.now _)
  · simp only [if_neg hl]
    refine Ev.bind first_ev ?_
    simp only [if_true]
    refine Ev.bind (crc_ev ns hn (by omega)) ?_
    refine Ev.bind (rcrc_ev ns hn (by omega)) ?_
    simp only [if_true]
    refine Ev.bind (fnv_ev (ofN ns) (by rw [ofN_length]; omega)) ?_
    refine Ev.bind (rfnv_ev (ofN ns) (by rw [ofN_length]; omega)) ?_
    simp only [if_true, beq_self_eq_true]
    exact Ev.now _

end Go.Proofs.Ytfknnppphijfpaa.Pure
