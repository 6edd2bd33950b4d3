/- For every input the law returns true. No conditions. -/
import Derived.Test.YtodncacbadjgnaaPAllx6
import Derived.Test.YtodncacbadjgnaaComM
namespace Go.Proofs.Ytodncacbadjgnaa.Pure
open Go.RowKit Go.Proofs.Ytodncacbadjgnaa.PAll Go.Proofs.YtodncacbadjgnaaW.PrintWords Go.Proofs.YtodncacbadjgnaaW.PrintLast Go.Proofs.YtodncacbadjgnaaW.PrintMore

theorem rmap_l0 (l : List Int) (hl : l.length ≤ 16000) : ∀ (d i : Nat) (o : List Int), i + d = l.length → o.length ≤ 2 * i → ∀ i' : Int, i' = (i : Int) →
    Ev (fun k => sprref1_Map.l0 k l o i') (res o i (l.drop i)) := by
  intro d
  induction d with
  | zero =>
    intro i o hi ho i' e
    subst e
    rw [List.drop_eq_nil_of_le (by omega), res]
    exact Ev.step (fun k => by rw [sprref1_Map.l0, if_neg (by omega)]) (Ev.now _)
  | succ d ih =>
    intro i o hi ho i' e
    subst e
    have hlt : i < l.length := by omega
    have h1 := out1_length l[i]
    have h := ih (i + 1) (o ++ out1 l[i]) (by omega) (by rw [List.length_append]; omega) (wrap64 (i + 1)) (by rw [wrap_small (by omega) (by omega)]; omega)
    rw [List.drop_eq_getElem_cons hlt, res]
    refine Ev.step (f := fun k => _) (fun k => by rw [sprref1_Map.l0, if_pos (by omega), if_pos (by omega), rd_at l i hlt]) ?_
    refine Ev.bind (rkind_ev l[i]) ?_
    by_cases c1 : kindS l[i] = 1
    · rw [out1, if_pos c1] at h
      simp only [if_pos c1, if_pos (show o.length < 17592186044416 by omega), if_neg (show ¬ kindS l[i] = 4 by omega), out1]
      exact h
    simp only [if_neg c1]
    by_cases c2 : kindS l[i] = 2
    · simp only [if_pos c2, if_neg (show ¬ kindS l[i] = 4 by omega)]
      refine Ev.bind (rto_ev l[i]) ?_
      have hml := (maps_all l[i]).2.2.1
      simp only [if_pos (show o.length + (mapsS l[i]).length < 17592186044416 by omega)]
      rw [out1, if_neg c1, if_pos c2] at h ⊢
      exact h
    simp only [if_neg c2]
    by_cases c4 : kindS l[i] = 4
    · simp only [if_pos c4]; exact Ev.now _
    · simp only [if_neg c4]
      rw [out1, if_neg c1, if_neg c2, List.append_nil] at h ⊢
      exact h
theorem rmap_ev (l : List Int) (hl : l.length ≤ 16000) : Ev (fun k => sprref1_Map.f k l) (res [] 0 l) := rmap_l0 l hl l.length 0 [] (by omega) (by simp) 0 rfl
theorem FoldMaps : sprlaw3_FoldMaps.Pure := by
  intro l _ _ _
  refine Ev.rounds (g := fun k => sprlaw3_FoldMaps.f k l) ?_
  simp only [sprlaw3_FoldMaps.f]
  refine Ev.bind first_ev ?_
  simp only [if_true]
  by_cases c1 : (l.length : Int) > 8000
  · simp only [if_pos c1]
    exact Ev.bind first_ev (Ev.now _)
  simp only [if_neg c1, copy_eq l (by omega), Option.bind_some]
  refine Ev.bind (map_ev l (by omega)) ?_
  refine Ev.bind (rmap_ev l (by omega)) ?_
  refine Ev.bind first_ev ?_
  simp only [if_true]
  refine Ev.bind (ints_same _ (by have := res_length l [] 0; simp only [List.length_nil] at this; omega)) ?_
  simp only [if_true, beq_self_eq_true]
  exact Ev.bind (ints_same l (by omega)) (Ev.now _)

end Go.Proofs.Ytodncacbadjgnaa.Pure
