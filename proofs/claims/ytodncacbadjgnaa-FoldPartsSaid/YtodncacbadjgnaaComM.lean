/- Signs mapped: what Map comes to. No conditions. -/
import Derived.Test.YtodncacbadjgnaaPAllx6
import Derived.Test.YtodncacbadjgnaaComA
namespace Go.Proofs.Ytodncacbadjgnaa.Pure
open Go.RowKit Go.Proofs.Ytodncacbadjgnaa.PAll Go.Proofs.YtodncacbadjgnaaW.PrintWords Go.Proofs.YtodncacbadjgnaaW.PrintLast Go.Proofs.YtodncacbadjgnaaW.PrintMore

/-! ### Map -/
def out1 (x : Int) : List Int := if kindS x = 1 then [x] else if kindS x = 2 then mapsS x else []
def outL (l : List Int) : List Int := l.flatMap out1
/-- What Map tells, from place i on, with what is there so far. -/
def res (o : List Int) (i : Nat) : List Int → List Int × Int × Bool
  | [] => (o, 0, true)
  | x :: r => if kindS x = 4 then ([], (i : Int), false) else res (o ++ out1 x) (i + 1) r
theorem out1_length (x : Int) : (out1 x).length ≤ 2 := by
  unfold out1
  have := (maps_all x).2.2.1
  repeat' split
  all_goals simp <;> omega
theorem concat_ev (a b : List Int) (h : a.length + b.length ≤ 1000000) : Ev (fun k => slices_Concat_int_int.f k [a, b]) (a ++ b) := by
  have hg : slices_Grow_int_int.f ((a.length : Int) + (b.length : Int)) = some [] := by
    unfold slices_Grow_int_int.f
    rw [if_pos (by omega), if_pos (by omega)]
  have r0 : rd_L1 [a, b] 0 = a := rfl
  have r1 : rd_L1 [a, b] 1 = b := rfl
  have w1 : wrap64 ((0 : Int) + 1) = 1 := wrap_small (by decide) (by decide)
  have w2 : wrap64 ((1 : Int) + 1) = 2 := wrap_small (by decide) (by decide)
  have w3 : wrap64 ((0 : Int) + (a.length : Int)) = (a.length : Int) := by rw [wrap_small (by omega) (by omega)]; omega
  have w4 : wrap64 ((a.length : Int) + (b.length : Int)) = (a.length : Int) + (b.length : Int) := by rw [wrap_small (by omega) (by omega)]
  have e2 : (([a, b] : List (List Int)).length : Int) = 2 := rfl
  have s6 : Ev (fun k => slices_Concat_int_int.l1 k (a ++ b) [a, b] 2 2) (a ++ b) := Ev.step (fun k => by rw [slices_Concat_int_int.l1, if_neg (by decide)]) (Ev.now _)
  have s5 : Ev (fun k => slices_Concat_int_int.l1 k a [a, b] 2 1) (a ++ b) := Ev.step (fun k => by rw [slices_Concat_int_int.l1, if_pos (by decide), if_pos (by decide), e2, if_pos (by decide), r1, if_pos (by omega), w2]) s6
  have s4 : Ev (fun k => slices_Concat_int_int.l1 k [] [a, b] 2 0) (a ++ b) := Ev.step (fun k => by rw [slices_Concat_int_int.l1, if_pos (by decide), if_pos (by decide), e2, if_pos (by decide), r0, if_pos (by simp; omega), w1, List.nil_append]) s5
  have s3 : Ev (fun k => slices_Concat_int_int.l0 k [a, b] ((a.length : Int) + (b.length : Int)) [a, b] 2 2) (a ++ b) := Ev.step (fun k => by rw [slices_Concat_int_int.l0, if_neg (by decide), hg, Option.bind_some, e2]) s4
  have s2 : Ev (fun k => slices_Concat_int_int.l0 k [a, b] (a.length : Int) [a, b] 2 1) (a ++ b) := Ev.step (fun k => by rw [slices_Concat_int_int.l0, if_pos (by decide), if_pos (by decide), e2, if_pos (by decide), r1, w4, if_neg (by omega), w2]) s3
  have s1 : Ev (fun k => slices_Concat_int_int.l0 k [a, b] 0 [a, b] 2 0) (a ++ b) := Ev.step (fun k => by rw [slices_Concat_int_int.l0, if_pos (by decide), if_pos (by decide), e2, if_pos (by decide), r0, w3, if_neg (by omega), w1]) s2
  exact s1
theorem map_l0 (l : List Int) (hl : l.length ≤ 16000) : ∀ (d i : Nat) (o : List Int), i + d = l.length → o.length ≤ 2 * i → ∀ i' : Int, i' = (i : Int) →
    Ev (fun k => fold_Map.l0 k o l (l.length : Int) i') (res o i (l.drop i)) := by
  intro d
  induction d with
  | zero =>
    intro i o hi ho i' e
    subst e
    rw [List.drop_eq_nil_of_le (by omega), res]
    exact Ev.step (fun k => by rw [fold_Map.l0, if_neg (by omega)]) (Ev.now _)
  | succ d ih =>
    intro i o hi ho i' e
    subst e
    have hlt : i < l.length := by omega
    have h1 := out1_length l[i]
    have h := ih (i + 1) (o ++ out1 l[i]) (by omega) (by rw [List.length_append]; omega) (wrap64 (i + 1)) (by rw [wrap_small (by omega) (by omega)]; omega)
    rw [List.drop_eq_getElem_cons hlt, res]
    refine Ev.step (f := fun k => _) (fun k => by rw [fold_Map.l0, if_pos (by omega), if_pos (by omega), if_pos (by omega), rd_at l i hlt]) ?_
    refine Ev.bind (kind_ev l[i]) ?_
    by_cases c4 : kindS l[i] = 4
    · simp only [if_pos c4]; exact Ev.now _
    simp only [if_neg c4]
    by_cases c1 : kindS l[i] = 1
    · rw [out1, if_pos c1] at h
      simp only [if_pos c1, if_pos (show o.length < 17592186044416 by omega), out1]
      exact h
    simp only [if_neg c1]
    by_cases c2 : kindS l[i] = 2
    · simp only [if_pos c2]
      refine Ev.bind (maps_ev l[i]) ?_
      have hml := (maps_all l[i]).2.2.1
      refine Ev.bind (concat_ev o (mapsS l[i]) (by omega)) ?_
      rw [out1, if_neg c1, if_pos c2] at h ⊢
      exact h
    · simp only [if_neg c2]
      rw [out1, if_neg c1, if_neg c2, List.append_nil] at h ⊢
      exact h
theorem map_ev (l : List Int) (hl : l.length ≤ 16000) : Ev (fun k => fold_Map.f k l) (res [] 0 l) := map_l0 l hl l.length 0 [] (by omega) (by simp) 0 rfl
theorem copy_eq (l : List Int) (h : l.length < 17592186044416) : sprref_CopyInts.f l = some l := by
  simp [sprref_CopyInts.f, h]
theorem res_length : ∀ (l o : List Int) (i : Nat), (res o i l).1.length ≤ o.length + 2 * l.length
  | [], o, i => by simp [res]
  | x :: l, o, i => by
    rw [res]
    split
    · simp
    · have := res_length l (o ++ out1 x) (i + 1)
      have h1 := out1_length x
      rw [List.length_append] at this
      rw [List.length_cons]
      omega

end Go.Proofs.Ytodncacbadjgnaa.Pure
