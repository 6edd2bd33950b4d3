/- For every input the law returns true. No conditions. -/
import Derived.Test.YtodncacbadjgnaaPAllx7
import Derived.Test.YtodncacbadjgnaaComS
namespace Go.Proofs.Ytodncacbadjgnaa.Pure
open Go.RowKit Go.Proofs.Ytodncacbadjgnaa.PAll Go.Proofs.YtodncacbadjgnaaW.PrintWords Go.Proofs.YtodncacbadjgnaaW.PrintLast Go.Proofs.YtodncacbadjgnaaW.PrintMore

theorem FoldParts : sprlaw3_FoldParts.Pure := by
  intro a b _ _ _ _ _ _
  have yes : Ev (fun k => sprlaw3_FoldParts.j0 k a b true) true := by
    refine Ev.step (fun k => ?_) (Ev.bind first_ev (Ev.now _))
    simp only [sprlaw3_FoldParts.j0, if_true]
  refine Ev.rounds (g := fun k => sprlaw3_FoldParts.f k a b) ?_
  simp only [sprlaw3_FoldParts.f]
  refine Ev.bind first_ev ?_
  simp only [if_true]
  by_cases c1 : (a.length : Int) > 8000
  · simp only [if_pos c1]; exact yes
  simp only [if_neg c1]
  by_cases c2 : (b.length : Int) > 8000
  · simp only [c2, decide_true]; exact yes
  simp only [c2, decide_false]
  refine Ev.step (f := fun k => _) (fun k => by rw [sprlaw3_FoldParts.j0, if_neg (by decide), copy_eq a (by omega)]) ?_
  refine Ev.bind (map_ev a (by omega)) ?_
  refine Ev.bind (map_ev b (by omega)) ?_
  simp only [Option.bind_some, if_pos (show a.length + b.length < 17592186044416 by omega)]
  refine Ev.bind (map_ev (a ++ b) (by rw [List.length_append]; omega)) ?_
  have la := outL_length a
  have lb := outL_length b
  by_cases ha : ∃ x ∈ a, kindS x = 4
  · obtain ⟨j, hj, h1, h2, h3⟩ := res_bad a [] 0 ha
    obtain ⟨x, hx, hk⟩ := ha
    obtain ⟨j', hj', k1, k2, k3⟩ := res_bad (a ++ b) [] 0 ⟨x, List.mem_append_left _ hx, hk⟩
    have ej : j' = j := by
      rcases Nat.lt_trichotomy j' j with h | h | h
      · have : (a ++ b)[j'] = a[j'] := List.getElem_append_left (by omega)
        rw [this] at k1
        exact absurd k1 (h2 a[j'] (by rw [List.mem_take_iff_getElem]; exact ⟨j', by omega, rfl⟩))
      · exact h
      · have : (a ++ b)[j]'(by omega) = a[j] := List.getElem_append_left hj
        exact absurd h1 (k2 a[j] (by rw [List.mem_take_iff_getElem]; exact ⟨j, by omega, this⟩))
    subst ej
    rw [h3, k3]
    simp only [Bool.false_eq_true, if_false]
    refine Ev.step (f := fun k => (sprlaw3_first.f k).bind fun t => if t = true then some true else some false) (fun k => ?_) (Ev.bind first_ev ?_)
    · rw [sprlaw3_FoldParts.j1, if_neg (by decide), if_neg (by decide)]
      simp
    · simp only [if_true]; exact Ev.now _
  · have hna : ∀ x ∈ a, kindS x ≠ 4 := fun x hx h => ha ⟨x, hx, h⟩
    rw [res_ok a [] 0 hna]
    by_cases hb : ∃ x ∈ b, kindS x = 4
    · obtain ⟨j, hj, h1, h2, h3⟩ := res_bad b [] 0 hb
      obtain ⟨x, hx, hk⟩ := hb
      obtain ⟨j', hj', k1, k2, k3⟩ := res_bad (a ++ b) [] 0 ⟨x, List.mem_append_right _ hx, hk⟩
      have ej : j' = a.length + j := by
        rcases Nat.lt_trichotomy j' (a.length + j) with h | h | h
        · by_cases hja : j' < a.length
          · have : (a ++ b)[j'] = a[j'] := List.getElem_append_left hja
            rw [this] at k1
            exact absurd k1 (hna a[j'] (List.getElem_mem _))
          · have : (a ++ b)[j'] = b[j' - a.length]'(by omega) := List.getElem_append_right (by omega)
            rw [this] at k1
            exact absurd k1 (h2 _ (by rw [List.mem_take_iff_getElem]; exact ⟨j' - a.length, by omega, rfl⟩))
        · exact h
        · have : (a ++ b)[a.length + j]'(by rw [List.length_append]; omega) = b[j] := by
            rw [List.getElem_append_right (by omega)]
            congr 1
            omega
          exact absurd h1 (k2 b[j] (by rw [List.mem_take_iff_getElem]; exact ⟨a.length + j, by rw [List.length_append]; omega, this⟩))
      subst ej
      rw [h3, k3]
      simp only [if_true, bne_self_eq_false]
      refine Ev.step (f := fun k => (sprlaw3_first.f k).bind fun t => if t = true then some true else some false) (fun k => ?_) (Ev.bind first_ev ?_)
      · rw [sprlaw3_FoldParts.j1, if_neg (by decide), if_neg (by decide), wrap_small (by omega) (by omega)]
        simp
      · simp only [if_true]; exact Ev.now _
    · have hnb : ∀ x ∈ b, kindS x ≠ 4 := fun x hx h => hb ⟨x, hx, h⟩
      rw [res_ok b [] 0 hnb, res_ok (a ++ b) [] 0 (fun x hx => (List.mem_append.mp hx).elim (hna x) (hnb x))]
      simp only [if_true, bne_self_eq_false, List.nil_append]
      refine Ev.step (f := fun k => (sprlaw3_first.f k).bind fun t => if t = true then ((sprref_Ints.f k (outL (a ++ b)) (outL a ++ outL b)).bind fun t388 => (some t388)) else some false) (fun k => ?_) (Ev.bind first_ev ?_)
      · rw [sprlaw3_FoldParts.j1, if_neg (by decide), if_pos rfl, copy_eq _ (by omega)]
        simp only [Option.bind_some, if_pos (show (outL a).length + (outL b).length < 17592186044416 by omega)]
      · simp only [if_true]
        have e : outL (a ++ b) = outL a ++ outL b := by simp [outL]
        rw [e]
        exact Ev.bind (ints_same _ (by rw [List.length_append]; omega)) (Ev.now _)

end Go.Proofs.Ytodncacbadjgnaa.Pure
