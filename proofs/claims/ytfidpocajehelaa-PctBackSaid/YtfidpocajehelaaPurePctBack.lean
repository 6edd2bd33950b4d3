/- For every input the law returns true. No conditions. -/
import Derived.Test.YtfidpocajehelaaPAllx6
import Derived.Test.YtfidpocajehelaaComE
namespace Go.Proofs.Ytfidpocajehelaa.Pure
open Go.RowKit Go.Proofs.Ytfidpocajehelaa.PAll Go.Proofs.YtfidpocajehelaaW.PrintWords Go.Proofs.YtfidpocajehelaaW.PrintLast Go.Proofs.YtfidpocajehelaaW.PrintMore

theorem set_facts : ∀ s : Fin 10, (∀ d : Fin 256, inS (s.val : Int) (bt greats ((d.val : Int) / 16)) = false ∧ inS (s.val : Int) (bt greats (Go.bits .and .u8 (d.val : Int) 15)) = false) ∧ inS 7 37 = true := by decide +kernel
theorem enc1_in (s x y : Int) (hx : 0 ≤ x ∧ x ≤ 255) (hy : y ∈ enc1 s x) (hi : inS s y = true) : y = 37 ∨ s = 8 ∧ y = 43 := by
  unfold enc1 code at hy
  split at hy
  · rename_i h
    simp only [List.mem_singleton] at hy
    exact .inr ⟨h.1, hy⟩
  · have hb := few_bd s
    have f := (set_facts ⟨(few s).toNat, by omega⟩).1 ⟨x.toNat, by omega⟩
    simp only [show (((few s).toNat : Nat) : Int) = few s by omega, show ((x.toNat : Nat) : Int) = x by omega, ← inS_few] at f
    split at hy
    · simp only [List.mem_cons, List.not_mem_nil, or_false] at hy
      rcases hy with rfl | rfl | rfl
      · exact .inl rfl
      · rw [f.1] at hi; exact absurd hi (by decide)
      · rw [f.2] at hi; exact absurd hi (by decide)
    · rename_i h
      simp only [List.mem_singleton] at hy
      subst hy
      exact absurd hi h
theorem decL_enc1 (s x : Int) (h0 : 0 ≤ x) (h1 : x ≤ 255) (hs : s ≠ 8) (hp : x ≠ 37 ∨ inS s x = true) (r : List Int) : decL (enc1 s x ++ r) = x :: decL r := by
  unfold enc1
  rw [if_neg (fun h => hs h.1)]
  by_cases c : inS s x = true
  · rw [if_pos c, decL_code x h0 h1]
  · rw [if_neg c, List.singleton_append, decL_ne _ _ (by rcases hp with h | h; exact h; exact absurd h c)]
theorem decL_encL (s : Int) (hs : s ≠ 8) : ∀ l : List Int, (∀ x ∈ l, 0 ≤ x ∧ x ≤ 255) → (∀ x ∈ l, x ≠ 37 ∨ inS s x = true) → decL (encL s l) = l
  | [], _, _ => rfl
  | x :: l, hw, hp => by
    have hx := hw x (by simp)
    rw [encL_cons, decL_enc1 s x hx.1 hx.2 hs (hp x (by simp)), decL_encL s hs l (fun y hy => hw y (by simp [hy])) (fun y hy => hp y (by simp [hy]))]
theorem back_l1 (l : List Int) (hl : l.length ≤ 8000) (u : List Int) (hu : (∀ x ∈ l, x ≠ 37) → u = l) : ∀ (d i : Nat), i + d = l.length → (∀ x ∈ l.take i, x ≠ 37) → ∀ i' : Int, i' = (i : Int) →
    Ev (fun k => sprlaw6_PctBack.l1 k l u i') true := by
  intro d
  induction d with
  | zero =>
    intro i hi hn i' e
    subst e
    rw [List.take_of_length_le (by omega)] at hn
    rw [hu hn]
    refine Ev.step (f := fun k => (sprlaw6_first.f k).bind fun t => if t = true then some true else some false) (fun k => ?_) (Ev.bind first_ev ?_)
    · rw [sprlaw6_PctBack.l1, if_neg (by omega), bytes_same, Option.bind_some]
    · simp only [if_true]
      exact Ev.now _
  | succ d ih =>
    intro i hi hn i' e
    subst e
    have hlt : i < l.length := by omega
    by_cases c : l[i] = 37
    · refine Ev.step (f := fun k => (sprlaw6_first.f k).bind fun t => some t) (fun k => ?_) (Ev.bind first_ev (Ev.now _))
      rw [sprlaw6_PctBack.l1, if_pos (by omega), if_pos (by omega), rd_at l i hlt, if_pos c]
    · refine Ev.step (fun k => ?_) (ih (i + 1) (by omega) ?_ (wrap64 ((i : Int) + 1)) (by rw [wrap_small (by omega) (by omega)]; omega))
      · rw [sprlaw6_PctBack.l1, if_pos (by omega), if_pos (by omega), rd_at l i hlt, if_neg c]
      · intro x hx
        rw [List.take_succ_eq_append_getElem hlt] at hx
        rcases List.mem_append.mp hx with hx | hx
        · exact hn x hx
        · rw [List.mem_singleton.mp hx]; exact c
theorem back_l0 (l : List Int) (hw : ∀ x ∈ l, 0 ≤ x ∧ x ≤ 255) (hl : l.length ≤ 8000) (set : Int) : ∀ (d i : Nat), i + d = (encL set l).length → ∀ i' : Int, i' = (i : Int) →
    Ev (fun k => sprlaw6_PctBack.l0 k l set (strOfNums (encL set l)) i') true := by
  have hb := encL_bd set l hw
  have hlen := encL_length set l
  have hsz : (strOfNums (encL set l)).size = (encL set l).length := strOfNums_size _
  have hby := bytesOf_str _ hb
  intro d
  induction d with
  | zero =>
    intro i hi i' e
    subst e
    by_cases c : set = 8
    · refine Ev.step (f := fun k => (sprlaw6_first.f k).bind fun t => if t = true then some true else some false) (fun k => ?_) (Ev.bind first_ev ?_)
      · rw [sprlaw6_PctBack.l0, if_neg (by omega), if_pos c, hsz, decide_eq_true (show ((encL set l).length : Int) ≥ (l.length : Int) by omega)]
      · simp only [if_true]
        exact Ev.now _
    · refine Ev.step (f := fun k => _) (fun k => by rw [sprlaw6_PctBack.l0, if_neg (by omega), if_neg c]) ?_
      refine Ev.bind (dec_ev _ (by rw [hsz]; omega)) ?_
      rw [hby]
      refine back_l1 l hl _ (fun hn => decL_encL set c l hw (fun x hx => .inl (hn x hx))) l.length 0 (by omega) (by simp) 0 rfl
  | succ d ih =>
    intro i hi i' e
    subst e
    have hlt : i < (encL set l).length := by omega
    have hbt : bt (strOfNums (encL set l)) (i : Int) = (encL set l)[i] := by
      rw [bt_at' _ i (by rw [hby]; exact hlt)]
      congr 1
    have hyb := hb _ (List.getElem_mem hlt)
    have h := ih (i + 1) (by omega) (wrap64 ((i : Int) + 1)) (by rw [wrap_small (by omega) (by omega)]; omega)
    refine Ev.step (f := fun k => _) (fun k => by rw [sprlaw6_PctBack.l0, if_pos (by omega), if_pos (by omega), hbt]) ?_
    refine Ev.bind (in_ev set _ hyb.1 hyb.2) ?_
    by_cases c : inS set (encL set l)[i] = true
    · simp only [if_pos c]
      obtain ⟨x, hx, hy⟩ := List.mem_flatMap.mp (List.getElem_mem hlt)
      rcases enc1_in set x _ (hw x hx) hy c with h37 | ⟨h8, h43⟩
      · simp only [if_pos h37]; exact h
      · simp only [if_neg (show ¬ (encL set l)[i] = 37 by omega), if_pos h8, if_pos h43]; exact h
    · simp only [if_neg c]; exact h
theorem PctBack : sprlaw6_PctBack.Pure := by
  intro l set _ hs hw _
  have hb : ∀ x ∈ l, 0 ≤ x ∧ x ≤ 255 := fun x hx => wf_u8 (hw x hx)
  refine Ev.rounds (g := fun k => sprlaw6_PctBack.f k l set) ?_
  simp only [sprlaw6_PctBack.f]
  refine Ev.bind first_ev ?_
  simp only [if_true]
  by_cases c1 : (l.length : Int) > 8000
  · simp only [if_pos c1]
    exact Ev.bind first_ev (Ev.now _)
  simp only [if_neg c1]
  have h37 : inS 7 37 = true := (set_facts 0).2
  have hlen := encL_length 7 l
  refine Ev.bind (enc_ev 7 l hb (by omega)) ?_
  refine Ev.bind (dec_ev _ (by rw [strOfNums_size]; omega)) ?_
  rw [bytesOf_str _ (encL_bd 7 l hb), decL_encL 7 (by decide) l hb (fun x hx => by
    by_cases c : x = 37
    · subst c; exact .inr h37
    · exact .inl c)]
  simp only [bytes_same, Option.bind_some, if_true]
  refine Ev.bind (enc_ev set l hb (by omega)) ?_
  exact back_l0 l hb (by omega) set (encL set l).length 0 (by omega) 0 rfl

end Go.Proofs.Ytfidpocajehelaa.Pure
