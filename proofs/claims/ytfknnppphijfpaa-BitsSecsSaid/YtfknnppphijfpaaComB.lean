/- Seconds: what Clip, Add and Sub come to, in both texts. No conditions. -/
import Derived.Test.YtfknnppphijfpaaPAllx4
import Derived.Test.YtfknnppphijfpaaComA
namespace Go.Proofs.Ytfknnppphijfpaa.Pure
open Go.RowKit Go.Proofs.Ytfknnppphijfpaa.PAll Go.Proofs.YtfknnppphijfpaaW.PrintWords Go.Proofs.YtfknnppphijfpaaW.PrintLast Go.Proofs.YtfknnppphijfpaaW.PrintMore
/-! ### seconds -/
def clip (a : Int) : Int := mn (mx a 0) 2147483648
theorem clip_bd (a : Int) : 0 ≤ clip a ∧ clip a ≤ 2147483648 := by
  unfold clip mn mx; repeat' split
  all_goals omega
theorem clip_in {n : Int} (h : 0 ≤ n) : clip n = mn n 2147483648 := by
  unfold clip mn mx
  repeat' split
  all_goals omega
theorem clip_le {n : Int} (h : n ≤ 2147483648) : clip n = mx n 0 := by
  unfold clip mn mx
  repeat' split
  all_goals omega
theorem clip_same {n : Int} (h : 0 ≤ n) (h' : n ≤ 2147483648) : clip n = n := by
  unfold clip mn mx
  repeat' split
  all_goals omega
theorem bclip (a : Int) : bits_Clip.f a = some (clip a) := rfl
theorem rclip (a : Int) : sprref1_Clip.f a = some (clip a) := rfl
theorem badd (a b : Int) : bits_Add.f a b = some (mn (clip a + clip b) 2147483648) := by
  have ha := clip_bd a
  have hb := clip_bd b
  simp only [bits_Add.f, bclip, Option.bind_some]
  rw [wrap_small (by omega) (by omega), clip_in (by omega)]
theorem bsub (a b : Int) : bits_Sub.f a b = some (mx (clip a - clip b) 0) := by
  have ha := clip_bd a
  have hb := clip_bd b
  simp only [bits_Sub.f, bclip, Option.bind_some]
  rw [wrap_small (by omega) (by omega), clip_le (by omega)]
theorem radd (a b : Int) : sprref1_Add.f a b = some (mn (clip a + clip b) 2147483648) := by
  have ha := clip_bd a
  have hb := clip_bd b
  simp only [sprref1_Add.f, rclip, Option.bind_some]
  rw [wrap_small (by omega) (by omega)]
theorem rsub (a b : Int) : sprref1_Sub.f a b = some (mx (clip a - clip b) 0) := by
  have ha := clip_bd a
  have hb := clip_bd b
  simp only [sprref1_Sub.f, rclip, Option.bind_some]
  rw [wrap_small (by omega) (by omega)]

theorem mn_bd {n m : Int} : mn n m ≤ m ∧ mn n m ≤ n := by unfold mn; split <;> omega
theorem mn_ge {n m k : Int} (h : k ≤ n) (h' : k ≤ m) : k ≤ mn n m := by unfold mn; split <;> omega

end Go.Proofs.Ytfknnppphijfpaa.Pure
