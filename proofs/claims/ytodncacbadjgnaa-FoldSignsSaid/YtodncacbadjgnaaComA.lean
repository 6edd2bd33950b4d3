/- Signs: their kinds and what they become, in both texts. No conditions. -/
import Derived.Test.YtodncacbadjgnaaPAllx5
namespace Go.Proofs.Ytodncacbadjgnaa.Pure
open Go.RowKit Go.Proofs.Ytodncacbadjgnaa.PAll Go.Proofs.YtodncacbadjgnaaW.PrintWords Go.Proofs.YtodncacbadjgnaaW.PrintLast Go.Proofs.YtodncacbadjgnaaW.PrintMore

theorem wrap_small {n : Int} (h : -9223372036854775808 ≤ n) (h' : n ≤ 9223372036854775807) : wrap64 n = n := by unfold wrap64; omega
theorem rd_at (l : List Int) (i : Nat) (h : i < l.length) : rd l (i : Int) = l[i] := by simp [rd, h]
theorem first_told : sprlaw3_first.f 60 = some true := by decide +kernel
theorem first_ev : Ev (fun k => sprlaw3_first.f k) true := Ev.of sprlaw3_first.mono first_told
/-! ### what a sign becomes -/
def mapsS (c : Int) : List Int := (fold_maps.f 20 c).getD []
def kindS (c : Int) : Int := (fold_Kind.f 20 c).getD 1
theorem tab1 : ∀ c : Fin 1100, (fold_maps.f 20 (c.val : Int)).isSome = true ∧ sprref1_To.f 20 (c.val : Int) = fold_maps.f 20 (c.val : Int) ∧ (mapsS (c.val : Int)).length ≤ 2 ∧ (mapsS (c.val : Int)).all (fun y => fold_Kind.f 20 y == some 1) = true := by decide +kernel
theorem tab2 : ∀ c : Fin 20, (fold_maps.f 20 ((c.val : Int) + 9305)).isSome = true ∧ sprref1_To.f 20 ((c.val : Int) + 9305) = fold_maps.f 20 ((c.val : Int) + 9305) ∧ (mapsS ((c.val : Int) + 9305)).length ≤ 2 ∧ (mapsS ((c.val : Int) + 9305)).all (fun y => fold_Kind.f 20 y == some 1) = true := by decide +kernel
theorem tab3 : ∀ c : Fin 105, (fold_maps.f 20 ((c.val : Int) + 65275)).isSome = true ∧ sprref1_To.f 20 ((c.val : Int) + 65275) = fold_maps.f 20 ((c.val : Int) + 65275) ∧ (mapsS ((c.val : Int) + 65275)).length ≤ 2 ∧ (mapsS ((c.val : Int) + 65275)).all (fun y => fold_Kind.f 20 y == some 1) = true := by decide +kernel
theorem tab4 : (fold_maps.f 20 8462).isSome = true ∧ sprref1_To.f 20 8462 = fold_maps.f 20 8462 ∧ (mapsS 8462).length ≤ 2 ∧ (mapsS 8462).all (fun y => fold_Kind.f 20 y == some 1) = true := by decide +kernel
theorem tab5 : (fold_maps.f 20 12290).isSome = true ∧ sprref1_To.f 20 12290 = fold_maps.f 20 12290 ∧ (mapsS 12290).length ≤ 2 ∧ (mapsS 12290).all (fun y => fold_Kind.f 20 y == some 1) = true := by decide +kernel
theorem within_no {c lo hi : Int} (h : c < lo ∨ hi < c) : fold_within.f c lo hi = some false := by
  unfold fold_within.f
  by_cases h1 : c ≥ lo
  · rw [if_pos h1, decide_eq_false (by omega)]
  · rw [if_neg h1]
theorem rwithin_no {c lo hi : Int} (h : c < lo ∨ hi < c) : sprref1_within.f c lo hi = some false := by
  unfold sprref1_within.f
  by_cases h1 : c ≥ lo
  · rw [if_pos h1, decide_eq_false (by omega)]
  · rw [if_neg h1]
/-- Beyond the tables nothing is mapped. -/
def far (c : Int) : Prop := (c < 0 ∨ 1099 < c) ∧ (c < 9305 ∨ 9324 < c) ∧ (c < 65275 ∨ 65379 < c) ∧ c ≠ 8462 ∧ c ≠ 12290
theorem beq_no {a b : Int} (h : a ≠ b) : (a == b) = false := beq_eq_false_iff_ne.mpr h
theorem far_maps (c : Int) (h : far c) : fold_maps.f 20 c = some [] := by
  obtain ⟨h1, h2, h3, h4, h5⟩ := h
  have w : ∀ lo hi : Int, (c < lo ∨ hi < c) → fold_within.f c lo hi = some false := fun lo hi => within_no
  have hs : fold_single.f 20 c = some [] := by
    unfold fold_single.f
    rw [if_neg (by omega), if_neg (by omega), if_neg (by omega), if_neg (by omega), if_neg (by omega), if_neg (by omega), beq_no (by omega), fold_single.j0, if_neg (by decide), if_neg (by omega), if_neg (by omega), if_neg (by omega), beq_no (by omega), fold_single.j1, if_neg (by decide), if_neg (by omega), if_neg (by omega)]
  have hm : fold_more.f 20 c = some 0 := by
    unfold fold_more.f
    rw [w 65 90 (by omega), Option.bind_some, if_neg (by decide), w 192 222 (by omega), Option.bind_some, if_neg (by decide), fold_more.j0, if_neg (by decide), w 913 937 (by omega), Option.bind_some, if_neg (by decide), w 1040 1071 (by omega), Option.bind_some, fold_more.j1, if_neg (by decide), w 1024 1039 (by omega), Option.bind_some, if_neg (by decide), w 256 311 (by omega), Option.bind_some, if_neg (by decide), w 330 375 (by omega), Option.bind_some, fold_more.j2, if_neg (by decide), w 313 328 (by omega), Option.bind_some, if_neg (by decide), w 377 382 (by omega), Option.bind_some, if_neg (by decide)]
  unfold fold_maps.f
  rw [hs, Option.bind_some, if_neg (by decide), hm, Option.bind_some, if_neg (by decide), w 65281 65374 (by omega), Option.bind_some, if_neg (by decide), w 9312 9320 (by omega), Option.bind_some, if_neg (by decide)]
theorem far_to (c : Int) (h : far c) : sprref1_To.f 20 c = some [] := by
  obtain ⟨h1, h2, h3, h4, h5⟩ := h
  have w : ∀ lo hi : Int, (c < lo ∨ hi < c) → sprref1_within.f c lo hi = some false := fun lo hi => rwithin_no
  have j2 : ∀ k, sprref1_small.j2 (k + 1) c false = some 0 := fun k => by rw [sprref1_small.j2, if_neg (by decide), if_neg (by omega), if_neg (by omega)]
  have j1 : ∀ k, sprref1_small.j1 (k + 2) c false = some 0 := fun k => by
    rw [sprref1_small.j1, if_neg (by decide)]
    by_cases p : Int.tmod c 2 = 1
    · rw [if_pos p, w 313 328 (by omega), Option.bind_some, if_neg (by decide), w 377 382 (by omega), Option.bind_some, j2]
    · rw [if_neg p, j2]
  have j0 : ∀ k, sprref1_small.j0 (k + 3) c false = some 0 := fun k => by
    rw [sprref1_small.j0, if_neg (by decide), w 1024 1039 (by omega), Option.bind_some, if_neg (by decide)]
    by_cases p : Int.tmod c 2 = 0
    · rw [if_pos p, w 256 311 (by omega), Option.bind_some, if_neg (by decide), w 330 375 (by omega), Option.bind_some, j1]
    · rw [if_neg p, j1]
  have hs : sprref1_small.f 20 c = some 0 := by
    unfold sprref1_small.f
    rw [w 65 90 (by omega), Option.bind_some, if_neg (by decide), w 192 222 (by omega), Option.bind_some, if_neg (by decide), w 913 937 (by omega), Option.bind_some, if_neg (by decide), w 1040 1071 (by omega), Option.bind_some, j0 17]
  unfold sprref1_To.f
  rw [hs, Option.bind_some, if_neg (by decide), if_neg (by omega), if_neg (by omega), if_neg (by omega), if_neg (by omega), beq_no (by omega), sprref1_To.j0, if_neg (by decide), w 65281 65374 (by omega), Option.bind_some, if_neg (by decide), if_neg (by omega), if_neg (by omega), if_neg (by omega), beq_no (by omega), sprref1_To.j1, if_neg (by decide), if_neg (by omega), w 9312 9320 (by omega), Option.bind_some, if_neg (by decide), if_neg (by omega)]
theorem maps_all (c : Int) : (fold_maps.f 20 c).isSome = true ∧ sprref1_To.f 20 c = fold_maps.f 20 c ∧ (mapsS c).length ≤ 2 ∧ (mapsS c).all (fun y => fold_Kind.f 20 y == some 1) = true := by
  by_cases c1 : 0 ≤ c ∧ c ≤ 1099
  · have := tab1 ⟨c.toNat, by omega⟩
    rwa [show ((c.toNat : Nat) : Int) = c by omega] at this
  by_cases c2 : 9305 ≤ c ∧ c ≤ 9324
  · have := tab2 ⟨(c - 9305).toNat, by omega⟩
    rwa [show (((c - 9305).toNat : Nat) : Int) + 9305 = c by omega] at this
  by_cases c3 : 65275 ≤ c ∧ c ≤ 65379
  · have := tab3 ⟨(c - 65275).toNat, by omega⟩
    rwa [show (((c - 65275).toNat : Nat) : Int) + 65275 = c by omega] at this
  by_cases c4 : c = 8462
  · subst c4; exact tab4
  by_cases c5 : c = 12290
  · subst c5; exact tab5
  have hf : far c := ⟨by omega, by omega, by omega, c4, c5⟩
  have e := far_maps c hf
  unfold mapsS
  rw [e, far_to c hf]
  exact ⟨rfl, rfl, by simp, by simp⟩
theorem maps_eq (c : Int) : fold_maps.f 20 c = some (mapsS c) := by
  obtain ⟨r, hr⟩ := Option.isSome_iff_exists.mp (maps_all c).1
  unfold mapsS
  rw [hr]; rfl
theorem maps_ev (c : Int) : Ev (fun k => fold_maps.f k c) (mapsS c) := Ev.of (fun k => fold_maps.mono c k) (maps_eq c)
theorem rto_ev (c : Int) : Ev (fun k => sprref1_To.f k c) (mapsS c) := Ev.of (fun k => sprref1_To.mono c k) ((maps_all c).2.1.trans (maps_eq c))
/-! ### kinds -/
theorem within_eq (c lo hi : Int) : fold_within.f c lo hi = some (decide (lo ≤ c ∧ c ≤ hi)) := by
  by_cases h : lo ≤ c ∧ c ≤ hi
  · unfold fold_within.f
    rw [if_pos h.1, decide_eq_true h, decide_eq_true h.2]
  · rw [within_no (by omega), decide_eq_false h]
theorem rwithin_eq (c lo hi : Int) : sprref1_within.f c lo hi = some (decide (lo ≤ c ∧ c ≤ hi)) := within_eq c lo hi
theorem scalar_eq (c : Int) : utf_Scalar.f c = sprref1_Scalar.f c := rfl
theorem scalar_some (c : Int) : ∃ b, utf_Scalar.f c = some b := by
  unfold utf_Scalar.f
  repeat' split
  all_goals exact ⟨_, rfl⟩
theorem kind_forms (c : Int) : ∃ b : Bool × Bool, fold_ignored.f c = some b.1 ∧ (b.1 = false → fold_forbidden.f c = some b.2) ∧ ∀ k, sprref1_Kind.f (k + 2) c = if b.1 = true then some 3 else if b.2 = true then some 4 else (sprref1_To.f k c).bind fun t => (if (t.length : Int) > 0 then (some 2) else (some 1)) := by
  have j0t : ∀ k, sprref1_Kind.j0 (k + 2) c true = some 3 := fun k => by rw [sprref1_Kind.j0, if_pos rfl]
  have hi : ∃ b, fold_ignored.f c = some b := by
    unfold fold_ignored.f
    rw [within_eq]
    simp only [Option.bind_some]
    repeat' split
    all_goals exact ⟨_, rfl⟩
  obtain ⟨b1, hb1⟩ := hi
  cases b1 with
  | true =>
    refine ⟨(true, true), hb1, fun h => absurd h (by decide), fun k => ?_⟩
    rw [if_pos rfl]
    unfold fold_ignored.f at hb1
    rw [within_eq] at hb1
    unfold sprref1_Kind.f
    rw [rwithin_eq]
    by_cases c1 : c = 173
    · rw [if_pos c1]; exact j0t k
    by_cases c2 : c = 8203
    · rw [if_neg c1, if_pos c2]; exact j0t k
    by_cases c3 : c = 8288
    · rw [if_neg c1, if_neg c2, if_pos c3]; exact j0t k
    rw [if_neg c1, if_neg c2, if_neg c3] at hb1 ⊢
    simp only [Option.bind_some] at hb1 ⊢
    by_cases c4 : decide (65024 ≤ c ∧ c ≤ 65039) = true
    · rw [if_pos c4]; exact j0t k
    rw [if_neg c4] at hb1 ⊢
    rw [Option.some.inj hb1]; exact j0t k
  | false =>
    have hf : ∃ b, fold_forbidden.f c = some b := by
      obtain ⟨s, hs⟩ := scalar_some c
      unfold fold_forbidden.f
      rw [hs, within_eq, within_eq, within_eq]
      simp only [Option.bind_some]
      repeat' split
      all_goals exact ⟨_, rfl⟩
    obtain ⟨b2, hb2⟩ := hf
    refine ⟨(false, b2), hb1, fun _ => hb2, fun k => ?_⟩
    simp only [Bool.false_eq_true, if_false]
    have hj : sprref1_Kind.f (k + 2) c = sprref1_Kind.j0 (k + 2) c false := by
      unfold fold_ignored.f at hb1
      rw [within_eq] at hb1
      unfold sprref1_Kind.f
      rw [rwithin_eq]
      by_cases c1 : c = 173
      · rw [if_pos c1] at hb1; exact absurd hb1 (by decide)
      by_cases c2 : c = 8203
      · rw [if_neg c1, if_pos c2] at hb1; exact absurd hb1 (by decide)
      by_cases c3 : c = 8288
      · rw [if_neg c1, if_neg c2, if_pos c3] at hb1; exact absurd hb1 (by decide)
      rw [if_neg c1, if_neg c2, if_neg c3] at hb1 ⊢
      simp only [Option.bind_some] at hb1 ⊢
      by_cases c4 : decide (65024 ≤ c ∧ c ≤ 65039) = true
      · rw [if_pos c4] at hb1; exact absurd hb1 (by decide)
      rw [if_neg c4] at hb1 ⊢
      rw [Option.some.inj hb1]
    rw [hj, sprref1_Kind.j0, if_neg (by decide), ← scalar_eq]
    have j1 : ∀ b, sprref1_Kind.j1 (k + 1) c b = if b = true then some 4 else (sprref1_To.f k c).bind fun t => (if (t.length : Int) > 0 then (some 2) else (some 1)) := fun b => by rw [sprref1_Kind.j1]
    obtain ⟨s, hs⟩ := scalar_some c
    unfold fold_forbidden.f at hb2
    rw [hs, within_eq, within_eq, within_eq] at hb2
    rw [hs, rwithin_eq, rwithin_eq, rwithin_eq]
    simp only [Option.bind_some, j1] at hb2 ⊢
    by_cases d1 : s = true
    case neg =>
      rw [if_neg d1] at hb2 ⊢
      rw [← Option.some.inj hb2]; rfl
    rw [if_pos d1] at hb2 ⊢
    by_cases d2 : decide (128 ≤ c ∧ c ≤ 160) = true
    · rw [if_pos d2] at hb2 ⊢
      rw [← Option.some.inj hb2]; rfl
    rw [if_neg d2] at hb2 ⊢
    by_cases d3 : decide (57344 ≤ c ∧ c ≤ 63743) = true
    · rw [if_pos d3] at hb2 ⊢
      rw [← Option.some.inj hb2]; rfl
    rw [if_neg d3] at hb2 ⊢
    by_cases d4 : decide (64976 ≤ c ∧ c ≤ 65007) = true
    · rw [if_pos d4] at hb2 ⊢
      rw [← Option.some.inj hb2]; rfl
    rw [if_neg d4] at hb2 ⊢
    by_cases d5 : c ≥ 983040
    · rw [if_pos d5] at hb2 ⊢
      rw [← Option.some.inj hb2]; rfl
    rw [if_neg d5] at hb2 ⊢
    rw [← Option.some.inj hb2]
theorem kind_both (c : Int) : fold_Kind.f 20 c = some (kindS c) ∧ Ev (fun k => sprref1_Kind.f k c) (kindS c) ∧ (kindS c = 1 ∨ kindS c = 2 ∨ kindS c = 3 ∨ kindS c = 4) ∧ (kindS c = 2 → mapsS c ≠ []) := by
  obtain ⟨⟨b1, b2⟩, h1, h2, h3⟩ := kind_forms c
  have hk : fold_Kind.f 20 c = if b1 = true then some 3 else if b2 = true then some 4 else if ((mapsS c).length : Int) > 0 then some 2 else some 1 := by
    unfold fold_Kind.f
    rw [h1, Option.bind_some]
    cases b1 with
    | true => rfl
    | false =>
      simp only [Bool.false_eq_true, if_false]
      rw [h2 rfl, Option.bind_some]
      cases b2 with
      | true => rfl
      | false => simp only [Bool.false_eq_true, if_false]; rw [maps_eq, Option.bind_some]
  have hr : Ev (fun k => sprref1_Kind.f k c) (if b1 = true then 3 else if b2 = true then 4 else if ((mapsS c).length : Int) > 0 then 2 else 1) := by
    refine Ev.step (f := fun k => sprref1_Kind.f (k + 1) c) (fun k => rfl) ?_
    refine Ev.step (f := fun k => if b1 = true then some 3 else if b2 = true then some 4 else (sprref1_To.f k c).bind fun t => (if (t.length : Int) > 0 then (some 2) else (some 1))) h3 ?_
    cases b1 with
    | true => exact Ev.now _
    | false =>
      cases b2 with
      | true => exact Ev.now _
      | false =>
        simp only [Bool.false_eq_true, if_false]
        refine Ev.bind (rto_ev c) ?_
        split
        · exact Ev.now _
        · exact Ev.now _
  unfold kindS
  rw [hk]
  cases b1 with
  | true => exact ⟨rfl, hr, .inr (.inr (.inl rfl)), fun h => absurd (show (3 : Int) = 2 from h) (by decide)⟩
  | false =>
    cases b2 with
    | true => exact ⟨rfl, hr, .inr (.inr (.inr rfl)), fun h => absurd (show (4 : Int) = 2 from h) (by decide)⟩
    | false =>
      simp only [Bool.false_eq_true, if_false] at hr ⊢
      by_cases hl : ((mapsS c).length : Int) > 0
      · simp only [if_pos hl] at hr ⊢
        exact ⟨rfl, hr, .inr (.inl rfl), fun _ e => by rw [e] at hl; exact absurd hl (by decide)⟩
      · simp only [if_neg hl] at hr ⊢
        exact ⟨rfl, hr, .inl rfl, fun h => absurd h (by decide)⟩
theorem kind_ev (c : Int) : Ev (fun k => fold_Kind.f k c) (kindS c) := Ev.of (fun k => fold_Kind.mono c k) (kind_both c).1
theorem rkind_ev (c : Int) : Ev (fun k => sprref1_Kind.f k c) (kindS c) := (kind_both c).2.1
theorem maps_valid (c : Int) : ∀ y ∈ mapsS c, kindS y = 1 := by
  intro y hy
  have h := (maps_all c).2.2.2
  rw [List.all_eq_true] at h
  have := h y hy
  unfold kindS
  rw [beq_iff_eq.mp this]
  rfl
def toS (c : Int) : List Int := if kindS c = 2 then mapsS c else []
theorem to_ev (c : Int) : Ev (fun k => fold_To.f k c) (toS c) := by
  simp only [fold_To.f]
  refine Ev.bind (kind_ev c) ?_
  unfold toS
  by_cases h : kindS c = 2
  · simp only [if_pos h]
    exact Ev.bind (maps_ev c) (Ev.now _)
  · simp only [if_neg h]
    exact Ev.now _
theorem ints_l0 (l : List Int) (hl : l.length ≤ 4611686018427387904) : ∀ (d i : Nat), i + d = l.length → ∀ i' : Int, i' = (i : Int) → Ev (fun k => sprref_Ints.l0 k l l i') true := by
  intro d
  induction d with
  | zero =>
    intro i hi i' e
    subst e
    exact Ev.step (fun k => by rw [sprref_Ints.l0, if_neg (by omega)]) (Ev.now _)
  | succ d ih =>
    intro i hi i' e
    subst e
    refine Ev.step (fun k => ?_) (ih (i + 1) (by omega) (wrap64 (i + 1)) (by rw [wrap_small (by omega) (by omega)]; omega))
    rw [sprref_Ints.l0, if_pos (by omega), if_pos (by omega), if_pos (by omega), if_pos rfl]
theorem ints_same (l : List Int) (hl : l.length ≤ 4611686018427387904) : Ev (fun k => sprref_Ints.f k l l) true := by
  simp only [sprref_Ints.f, if_true]
  exact ints_l0 l hl l.length 0 (by omega) 0 rfl

end Go.Proofs.Ytodncacbadjgnaa.Pure
