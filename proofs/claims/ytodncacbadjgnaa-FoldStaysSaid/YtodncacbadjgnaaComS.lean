/- What was mapped is valid. No conditions. -/
import Derived.Test.YtodncacbadjgnaaPAllx7
import Derived.Test.YtodncacbadjgnaaComM
namespace Go.Proofs.Ytodncacbadjgnaa.Pure
open Go.RowKit Go.Proofs.Ytodncacbadjgnaa.PAll Go.Proofs.YtodncacbadjgnaaW.PrintWords Go.Proofs.YtodncacbadjgnaaW.PrintLast Go.Proofs.YtodncacbadjgnaaW.PrintMore

theorem res_ok : ∀ (l o : List Int) (i : Nat), (∀ x ∈ l, kindS x ≠ 4) → res o i l = (o ++ outL l, 0, true)
  | [], o, i, _ => by simp [res, outL]
  | x :: l, o, i, h => by
    rw [res, if_neg (h x (by simp)), res_ok l _ _ (fun y hy => h y (by simp [hy]))]
    simp [outL]
theorem res_bad : ∀ (l o : List Int) (i : Nat), (∃ x ∈ l, kindS x = 4) → ∃ j, ∃ h : j < l.length, kindS l[j] = 4 ∧ (∀ x ∈ l.take j, kindS x ≠ 4) ∧ res o i l = ([], ((i + j : Nat) : Int), false)
  | [], _, _, h => by obtain ⟨x, hx, _⟩ := h; simp at hx
  | x :: l, o, i, h => by
    by_cases c : kindS x = 4
    · exact ⟨0, by simp, c, by simp, by rw [res, if_pos c]; rfl⟩
    · obtain ⟨y, hy, hk⟩ := h
      rcases List.mem_cons.mp hy with rfl | hy
      · exact absurd hk c
      obtain ⟨j, hj, h1, h2, h3⟩ := res_bad l (o ++ out1 x) (i + 1) ⟨y, hy, hk⟩
      refine ⟨j + 1, by simpa using hj, h1, fun z hz => ?_, ?_⟩
      · rcases List.mem_cons.mp hz with rfl | hz
        · exact c
        · exact h2 z hz
      · rw [res, if_neg c, h3, show i + 1 + j = i + (j + 1) by omega]
theorem outL_valid (l : List Int) : ∀ y ∈ outL l, kindS y = 1 := by
  intro y hy
  obtain ⟨x, _, hx⟩ := List.mem_flatMap.mp hy
  unfold out1 at hx
  split at hx
  · rename_i h
    rw [List.mem_singleton.mp hx]; exact h
  · split at hx
    · exact maps_valid x y hx
    · simp at hx
theorem outL_self : ∀ l : List Int, (∀ y ∈ l, kindS y = 1) → outL l = l
  | [], _ => rfl
  | x :: l, h => by
    have := outL_self l (fun y hy => h y (by simp [hy]))
    unfold outL at this ⊢
    rw [List.flatMap_cons, this, out1, if_pos (h x (by simp))]
    rfl
theorem outL_length (l : List Int) : (outL l).length ≤ 2 * l.length := by
  induction l with
  | nil => simp [outL]
  | cons x l ih =>
    have := out1_length x
    unfold outL at ih ⊢
    rw [List.flatMap_cons, List.length_append, List.length_cons]
    omega
theorem stays_l1 (l : List Int) (hv : ∀ y ∈ l, kindS y = 1) (hl : l.length ≤ 16000) : ∀ (d i : Nat), i + d = l.length → ∀ i' : Int, i' = (i : Int) →
    Ev (fun k => sprlaw3_FoldStays.l1 k l i') true := by
  intro d
  induction d with
  | zero =>
    intro i hi i' e
    subst e
    refine Ev.step (f := fun k => _) (fun k => by rw [sprlaw3_FoldStays.l1, if_neg (by omega)]) ?_
    refine Ev.bind (map_ev l hl) ?_
    rw [res_ok l [] 0 (fun x hx => by rw [hv x hx]; decide), outL_self l hv]
    refine Ev.bind first_ev ?_
    simp only [if_true, List.nil_append]
    exact Ev.bind (ints_same l (by omega)) (Ev.now _)
  | succ d ih =>
    intro i hi i' e
    subst e
    have hlt : i < l.length := by omega
    refine Ev.step (f := fun k => _) (fun k => by rw [sprlaw3_FoldStays.l1, if_pos (by omega), if_pos (by omega), rd_at l i hlt]) ?_
    refine Ev.bind (kind_ev l[i]) ?_
    simp only [if_pos (hv _ (List.getElem_mem hlt))]
    exact ih (i + 1) (by omega) (wrap64 (i + 1)) (by rw [wrap_small (by omega) (by omega)]; omega)
theorem stays_l0 (l t : List Int) (ht : ∀ y ∈ t, kindS y = 1) (htl : t.length ≤ 2) (hl : l.length ≤ 8000) : ∀ (d i : Nat), i + d = t.length → ∀ i' : Int, i' = (i : Int) →
    Ev (fun k => sprlaw3_FoldStays.l0 k l t i') true := by
  intro d
  induction d with
  | zero =>
    intro i hi i' e
    subst e
    refine Ev.step (f := fun k => _) (fun k => by rw [sprlaw3_FoldStays.l0, if_neg (by omega)]) ?_
    refine Ev.bind (map_ev l (by omega)) ?_
    by_cases hb : ∃ x ∈ l, kindS x = 4
    · obtain ⟨j, hj, h1, _, h3⟩ := res_bad l [] 0 hb
      rw [h3]
      simp only [Bool.false_eq_true, if_false, Nat.zero_add]
      refine Ev.bind first_ev ?_
      simp only [if_true, List.length_nil, if_pos (show ((0 : Nat) : Int) = 0 by omega), if_pos (show ((j : Nat) : Int) ≥ 0 by omega), if_pos (show ((j : Nat) : Int) < (l.length : Int) by omega), rd_at l j hj]
      refine Ev.bind (kind_ev l[j]) ?_
      rw [h1]
      exact Ev.now _
    · have hn : ∀ x ∈ l, kindS x ≠ 4 := fun x hx h => hb ⟨x, hx, h⟩
      rw [res_ok l [] 0 hn]
      simp only [if_true, List.nil_append]
      have := outL_length l
      exact stays_l1 (outL l) (outL_valid l) (by omega) (outL l).length 0 (by omega) 0 rfl
  | succ d ih =>
    intro i hi i' e
    subst e
    have hlt : i < t.length := by omega
    refine Ev.step (f := fun k => _) (fun k => by rw [sprlaw3_FoldStays.l0, if_pos (by omega), if_pos (by omega), rd_at t i hlt]) ?_
    refine Ev.bind (kind_ev t[i]) ?_
    simp only [if_pos (ht _ (List.getElem_mem hlt))]
    exact ih (i + 1) (by omega) (wrap64 (i + 1)) (by rw [wrap_small (by omega) (by omega)]; omega)

end Go.Proofs.Ytodncacbadjgnaa.Pure
