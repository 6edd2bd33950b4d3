/- Written by a program of this session (a changed print of the kit): what functions of the program compute, as Lean functions, and that the program computes just that; in a row's text: the given statement. No conditions. -/
import Derived.Test.YtodncacbadjgnaaPAllx0
import Derived.Test.YtodncacbadjgnaaPAllx3
namespace Go.Proofs.Ytodncacbadjgnaa.PAll
open Go.RowKit Go.Proofs.YtodncacbadjgnaaW.PrintWords Go.Proofs.YtodncacbadjgnaaW.PrintLast Go.Proofs.YtodncacbadjgnaaW.PrintMore
attribute [local go_sem] max2_int min2_int max_two min_two max_three min_three max_four min_four   -- for this text's walks alone
set_option linter.unusedVariables false
set_option linter.unusedSimpArgs false

/-! ### sprref1_small: function 21 -/
mutual
def sprref1_small.j0 : Nat → Int → Bool → Option (Int)
  | 0, _, _ => none
  | k + 1, x0, x3 => if x3 = true then (some (wrap64 (x0 + 32))) else ((sprref1_within.f x0 1024 1039).bind fun t223 => (if t223 = true then (some (wrap64 (x0 + 80))) else (if (Int.tmod x0 2) = 0 then ((sprref1_within.f x0 256 311).bind fun t224 => (if t224 = true then (if x0 = 304 then ((sprref1_within.f x0 330 375).bind fun t225 => (sprref1_small.j1 k x0 t225)) else (sprref1_small.j1 k x0 true)) else ((sprref1_within.f x0 330 375).bind fun t226 => (sprref1_small.j1 k x0 t226)))) else (sprref1_small.j1 k x0 false))))
def sprref1_small.j1 : Nat → Int → Bool → Option (Int)
  | 0, _, _ => none
  | k + 1, x0, x33 => if x33 = true then (some (wrap64 (x0 + 1))) else (if (Int.tmod x0 2) = 1 then ((sprref1_within.f x0 313 328).bind fun t227 => (if t227 = true then (sprref1_small.j2 k x0 true) else ((sprref1_within.f x0 377 382).bind fun t228 => (sprref1_small.j2 k x0 t228)))) else (sprref1_small.j2 k x0 false))
def sprref1_small.j2 : Nat → Int → Bool → Option (Int)
  | 0, _, _ => none
  | k + 1, x0, x51 => if x51 = true then (some (wrap64 (x0 + 1))) else (if x0 = 376 then (some 255) else (if x0 = 383 then (some 115) else (some 0)))
end
def sprref1_small.f (k : Nat) (a0 : Int) : Option (Int) := (sprref1_within.f a0 65 90).bind fun t215 => (if t215 = true then (sprref1_small.j0 k a0 true) else ((sprref1_within.f a0 192 222).bind fun t216 => (if t216 = true then (if a0 = 215 then ((sprref1_within.f a0 913 937).bind fun t217 => (if t217 = true then (if a0 = 930 then ((sprref1_within.f a0 1040 1071).bind fun t218 => (sprref1_small.j0 k a0 t218)) else (sprref1_small.j0 k a0 true)) else ((sprref1_within.f a0 1040 1071).bind fun t219 => (sprref1_small.j0 k a0 t219)))) else (sprref1_small.j0 k a0 true)) else ((sprref1_within.f a0 913 937).bind fun t220 => (if t220 = true then (if a0 = 930 then ((sprref1_within.f a0 1040 1071).bind fun t221 => (sprref1_small.j0 k a0 t221)) else (sprref1_small.j0 k a0 true)) else ((sprref1_within.f a0 1040 1071).bind fun t222 => (sprref1_small.j0 k a0 t222)))))))
theorem sprref1_small.mono_l : ∀ k, (∀ y0 y1, LeO (sprref1_small.j0 k y0 y1) (sprref1_small.j0 (k + 1) y0 y1)) ∧ (∀ y0 y1, LeO (sprref1_small.j1 k y0 y1) (sprref1_small.j1 (k + 1) y0 y1)) ∧ (∀ y0 y1, LeO (sprref1_small.j2 k y0 y1) (sprref1_small.j2 (k + 1) y0 y1))
  | 0 => ⟨fun _ _ r h => by simp [sprref1_small.j0] at h, fun _ _ r h => by simp [sprref1_small.j1] at h, fun _ _ r h => by simp [sprref1_small.j2] at h⟩
  | k + 1 => by
    obtain ⟨ih0, ih1, ih2⟩ := sprref1_small.mono_l k
    refine ⟨?_, ?_, ?_⟩
    · intro y0 y1
      unfold sprref1_small.j0
      repeat' first
      | (with_reducible exact ih0 _ _)
      | (with_reducible exact ih1 _ _)
      | (with_reducible exact ih2 _ _)
      | (with_reducible exact LeO.refl _)
      | (with_reducible exact LeO.none _)
      | (with_reducible refine LeO.ite ?_ ?_)
      | (with_reducible refine LeO.bind ?_ (fun _ => ?_))
      | exact ih0 _ _
      | exact ih1 _ _
      | exact ih2 _ _
      | exact LeO.none _
      | refine LeO.ite ?_ ?_
      | refine LeO.bind ?_ (fun _ => ?_)
    · intro y0 y1
      unfold sprref1_small.j1
      repeat' first
      | (with_reducible exact ih0 _ _)
      | (with_reducible exact ih1 _ _)
      | (with_reducible exact ih2 _ _)
      | (with_reducible exact LeO.refl _)
      | (with_reducible exact LeO.none _)
      | (with_reducible refine LeO.ite ?_ ?_)
      | (with_reducible refine LeO.bind ?_ (fun _ => ?_))
      | exact ih0 _ _
      | exact ih1 _ _
      | exact ih2 _ _
      | exact LeO.none _
      | refine LeO.ite ?_ ?_
      | refine LeO.bind ?_ (fun _ => ?_)
    · intro y0 y1
      unfold sprref1_small.j2
      repeat' first
      | (with_reducible exact ih0 _ _)
      | (with_reducible exact ih1 _ _)
      | (with_reducible exact ih2 _ _)
      | (with_reducible exact LeO.refl _)
      | (with_reducible exact LeO.none _)
      | (with_reducible refine LeO.ite ?_ ?_)
      | (with_reducible refine LeO.bind ?_ (fun _ => ?_))
      | exact ih0 _ _
      | exact ih1 _ _
      | exact ih2 _ _
      | exact LeO.none _
      | refine LeO.ite ?_ ?_
      | refine LeO.bind ?_ (fun _ => ?_)
theorem sprref1_small.mono : ∀ a0 k, LeO (sprref1_small.f k a0) (sprref1_small.f (k + 1) a0) := by
  intro a0 k
  obtain ⟨ih0, ih1, ih2⟩ := sprref1_small.mono_l k
  unfold sprref1_small.f
  repeat' first
      | (with_reducible exact ih0 _ _)
      | (with_reducible exact ih1 _ _)
      | (with_reducible exact ih2 _ _)
      | (with_reducible exact LeO.refl _)
      | (with_reducible exact LeO.none _)
      | (with_reducible refine LeO.ite ?_ ?_)
      | (with_reducible refine LeO.bind ?_ (fun _ => ?_))
      | exact ih0 _ _
      | exact ih1 _ _
      | exact ih2 _ _
      | exact LeO.none _
      | refine LeO.ite ?_ ?_
      | refine LeO.bind ?_ (fun _ => ?_)
set_option maxHeartbeats 8000000 in
set_option maxRecDepth 100000 in
theorem sprref1_small.calls (k : Nat) (a0 : Int) (r : Int) (w : World) (h : sprref1_small.f k a0 = some r) :
    Calls Try.prog 21 #[.int .i64 a0] w fun e w' => e = .returned (.int .i64 r) ∧ Drawn0 w w' := by
  have H : ((sprref1_within.f a0 65 90).bind fun t215 => (if t215 = true then (sprref1_small.j0 k a0 true) else ((sprref1_within.f a0 192 222).bind fun t216 => (if t216 = true then (if a0 = 215 then ((sprref1_within.f a0 913 937).bind fun t217 => (if t217 = true then (if a0 = 930 then ((sprref1_within.f a0 1040 1071).bind fun t218 => (sprref1_small.j0 k a0 t218)) else (sprref1_small.j0 k a0 true)) else ((sprref1_within.f a0 1040 1071).bind fun t219 => (sprref1_small.j0 k a0 t219)))) else (sprref1_small.j0 k a0 true)) else ((sprref1_within.f a0 913 937).bind fun t220 => (if t220 = true then (if a0 = 930 then ((sprref1_within.f a0 1040 1071).bind fun t221 => (sprref1_small.j0 k a0 t221)) else (sprref1_small.j0 k a0 true)) else ((sprref1_within.f a0 1040 1071).bind fun t222 => (sprref1_small.j0 k a0 t222)))))))) = some r := h
  clear h
  have HC2 := Aside0.mk H
  clear H
  go_enter Try.func21, Try.ntmps21
  go_upto_region 1 with (fail)
  go_cut [3] (fun v3 wc => ∃ (kq : Nat) (x3_1 : Bool), v3 = .bool x3_1 ∧ Aside0 (sprref1_small.j0 kq a0 x3_1 = some r) ∧ Aside0 (kq ≤ k) ∧ Drawn0 w wc)
  case first =>
    have H := HC2.out
    clear HC2
    replace H := Option.bind_eq_some_iff.mp H
    obtain ⟨t215, A30, H⟩ := H
    replace H : (if t215 = true then (sprref1_small.j0 k a0 true) else ((sprref1_within.f a0 192 222).bind fun t216 => (if t216 = true then (if a0 = 215 then ((sprref1_within.f a0 913 937).bind fun t217 => (if t217 = true then (if a0 = 930 then ((sprref1_within.f a0 1040 1071).bind fun t218 => (sprref1_small.j0 k a0 t218)) else (sprref1_small.j0 k a0 true)) else ((sprref1_within.f a0 1040 1071).bind fun t219 => (sprref1_small.j0 k a0 t219)))) else (sprref1_small.j0 k a0 true)) else ((sprref1_within.f a0 913 937).bind fun t220 => (if t220 = true then (if a0 = 930 then ((sprref1_within.f a0 1040 1071).bind fun t221 => (sprref1_small.j0 k a0 t221)) else (sprref1_small.j0 k a0 true)) else ((sprref1_within.f a0 1040 1071).bind fun t222 => (sprref1_small.j0 k a0 t222))))))) = some r := H
    have A3 := Aside0.mk A30
    clear A30
    by_cases c4 : t215 = true
    · subst c4
      have H1 : (sprref1_small.j0 k a0 true) = some r := by rw [if_pos rfl] at H; exact H
      clear H
      have H := H1
      clear H1
      have H' := Aside0.mk H
      clear H
      go_wp2_with (first | ((with_reducible refine gate_callee (f := 19) rfl ?_); refine goesL_ (some 5) rfl rfl Try.func19 (by kernel_rfl) rfl #[.int .i64 a0, .int .i64 65, .int .i64 90] rfl (by (try simp only [List.map_toArray, List.map_cons, List.map_nil]); first | done | rfl | (simp only [List.length_drop, List.length_take]; rfl)) ?_; (with_reducible refine (sprref1_within.calls a0 65 90 true _ A3.out).mono ?_); rintro e w' ⟨rfl, ⟨nd, rfl⟩⟩; refine ⟨_, rfl, ?_⟩))
      go_meet
      case rel => exact ⟨_, (true), (by first | rfl | (simp; done) | (simp [*]; done)), H', ⟨by first | omega | exact Nat.le_refl _⟩, by repeat (first | exact Drawn0.refl _ | apply Drawn0.step)⟩
    · replace c4 := Bool.eq_false_iff.mpr c4
      subst c4
      have H1 : ((sprref1_within.f a0 192 222).bind fun t216 => (if t216 = true then (if a0 = 215 then ((sprref1_within.f a0 913 937).bind fun t217 => (if t217 = true then (if a0 = 930 then ((sprref1_within.f a0 1040 1071).bind fun t218 => (sprref1_small.j0 k a0 t218)) else (sprref1_small.j0 k a0 true)) else ((sprref1_within.f a0 1040 1071).bind fun t219 => (sprref1_small.j0 k a0 t219)))) else (sprref1_small.j0 k a0 true)) else ((sprref1_within.f a0 913 937).bind fun t220 => (if t220 = true then (if a0 = 930 then ((sprref1_within.f a0 1040 1071).bind fun t221 => (sprref1_small.j0 k a0 t221)) else (sprref1_small.j0 k a0 true)) else ((sprref1_within.f a0 1040 1071).bind fun t222 => (sprref1_small.j0 k a0 t222)))))) = some r := by rw [if_neg (show ¬ (false = true) by decide)] at H; exact H
      clear H
      have H := H1
      clear H1
      replace H := Option.bind_eq_some_iff.mp H
      obtain ⟨t216, A50, H⟩ := H
      replace H : (if t216 = true then (if a0 = 215 then ((sprref1_within.f a0 913 937).bind fun t217 => (if t217 = true then (if a0 = 930 then ((sprref1_within.f a0 1040 1071).bind fun t218 => (sprref1_small.j0 k a0 t218)) else (sprref1_small.j0 k a0 true)) else ((sprref1_within.f a0 1040 1071).bind fun t219 => (sprref1_small.j0 k a0 t219)))) else (sprref1_small.j0 k a0 true)) else ((sprref1_within.f a0 913 937).bind fun t220 => (if t220 = true then (if a0 = 930 then ((sprref1_within.f a0 1040 1071).bind fun t221 => (sprref1_small.j0 k a0 t221)) else (sprref1_small.j0 k a0 true)) else ((sprref1_within.f a0 1040 1071).bind fun t222 => (sprref1_small.j0 k a0 t222))))) = some r := H
      have A5 := Aside0.mk A50
      clear A50
      by_cases c6 : t216 = true
      · subst c6
        have H1 : (if a0 = 215 then ((sprref1_within.f a0 913 937).bind fun t217 => (if t217 = true then (if a0 = 930 then ((sprref1_within.f a0 1040 1071).bind fun t218 => (sprref1_small.j0 k a0 t218)) else (sprref1_small.j0 k a0 true)) else ((sprref1_within.f a0 1040 1071).bind fun t219 => (sprref1_small.j0 k a0 t219)))) else (sprref1_small.j0 k a0 true)) = some r := by rw [if_pos rfl] at H; exact H
        clear H
        have H := H1
        clear H1
        by_cases c7 : a0 = 215
        · rw [if_pos c7] at H
          have c7b0 : (a0 == 215) = true := beq_iff_eq.mpr c7
          have c7b1 : (a0 != 215) = false := bne_eq_false_iff_eq.mpr c7
          clear c7
          (first | rw [c7b0] | (simp only [i64_w, i32_w]; rw [c7b0]) | skip)
          replace H := Option.bind_eq_some_iff.mp H
          obtain ⟨t217, A80, H⟩ := H
          replace H : (if t217 = true then (if a0 = 930 then ((sprref1_within.f a0 1040 1071).bind fun t218 => (sprref1_small.j0 k a0 t218)) else (sprref1_small.j0 k a0 true)) else ((sprref1_within.f a0 1040 1071).bind fun t219 => (sprref1_small.j0 k a0 t219))) = some r := H
          have A8 := Aside0.mk A80
          clear A80
          by_cases c9 : t217 = true
          · subst c9
            have H1 : (if a0 = 930 then ((sprref1_within.f a0 1040 1071).bind fun t218 => (sprref1_small.j0 k a0 t218)) else (sprref1_small.j0 k a0 true)) = some r := by rw [if_pos rfl] at H; exact H
            clear H
            have H := H1
            clear H1
            by_cases c10 : a0 = 930
            · rw [if_pos c10] at H
              have c10b0 : (a0 == 930) = true := beq_iff_eq.mpr c10
              have c10b1 : (a0 != 930) = false := bne_eq_false_iff_eq.mpr c10
              clear c10
              replace H := Option.bind_eq_some_iff.mp H
              obtain ⟨t218, A110, H⟩ := H
              replace H : (sprref1_small.j0 k a0 t218) = some r := H
              have A11 := Aside0.mk A110
              clear A110
              have H' := Aside0.mk H
              clear H
              go_wp2_with (first | ((with_reducible refine gate_callee (f := 19) rfl ?_); refine goesL_ (some 5) rfl rfl Try.func19 (by kernel_rfl) rfl #[.int .i64 a0, .int .i64 65, .int .i64 90] rfl (by (try simp only [List.map_toArray, List.map_cons, List.map_nil]); first | done | rfl | (simp only [List.length_drop, List.length_take]; rfl)) ?_; (with_reducible refine (sprref1_within.calls a0 65 90 false _ A3.out).mono ?_); rintro e w' ⟨rfl, ⟨nd, rfl⟩⟩; refine ⟨_, rfl, ?_⟩) | (go_at_call 19; (with_reducible refine (sprref1_within.calls a0 192 222 true _ A5.out).mono ?_); rintro e w' ⟨rfl, ⟨nd, rfl⟩⟩) | (go_at_call 19; (with_reducible refine (sprref1_within.calls a0 913 937 true _ A8.out).mono ?_); rintro e w' ⟨rfl, ⟨nd, rfl⟩⟩) | (go_at_call 19; (with_reducible refine (sprref1_within.calls a0 1040 1071 t218 _ A11.out).mono ?_); rintro e w' ⟨rfl, ⟨nd, rfl⟩⟩))
              go_meet
              case rel => exact ⟨_, (t218), (by first | rfl | (simp; done) | (simp [*]; done)), H', ⟨by first | omega | exact Nat.le_refl _⟩, by repeat (first | exact Drawn0.refl _ | apply Drawn0.step)⟩
            · rw [if_neg c10] at H
              have c10b0 : (a0 == 930) = false := beq_eq_false_iff_ne.mpr c10
              have c10b1 : (a0 != 930) = true := bne_iff_ne.mpr c10
              have H' := Aside0.mk H
              clear H
              go_wp2_with (first | ((with_reducible refine gate_callee (f := 19) rfl ?_); refine goesL_ (some 5) rfl rfl Try.func19 (by kernel_rfl) rfl #[.int .i64 a0, .int .i64 65, .int .i64 90] rfl (by (try simp only [List.map_toArray, List.map_cons, List.map_nil]); first | done | rfl | (simp only [List.length_drop, List.length_take]; rfl)) ?_; (with_reducible refine (sprref1_within.calls a0 65 90 false _ A3.out).mono ?_); rintro e w' ⟨rfl, ⟨nd, rfl⟩⟩; refine ⟨_, rfl, ?_⟩) | (go_at_call 19; (with_reducible refine (sprref1_within.calls a0 192 222 true _ A5.out).mono ?_); rintro e w' ⟨rfl, ⟨nd, rfl⟩⟩) | (go_at_call 19; (with_reducible refine (sprref1_within.calls a0 913 937 true _ A8.out).mono ?_); rintro e w' ⟨rfl, ⟨nd, rfl⟩⟩))
              go_meet
              case rel => exact ⟨_, (true), (by first | rfl | (simp; done) | (simp [*]; done)), H', ⟨by first | omega | exact Nat.le_refl _⟩, by repeat (first | exact Drawn0.refl _ | apply Drawn0.step)⟩
          · replace c9 := Bool.eq_false_iff.mpr c9
            subst c9
            have H1 : ((sprref1_within.f a0 1040 1071).bind fun t219 => (sprref1_small.j0 k a0 t219)) = some r := by rw [if_neg (show ¬ (false = true) by decide)] at H; exact H
            clear H
            have H := H1
            clear H1
            replace H := Option.bind_eq_some_iff.mp H
            obtain ⟨t219, A120, H⟩ := H
            replace H : (sprref1_small.j0 k a0 t219) = some r := H
            have A12 := Aside0.mk A120
            clear A120
            have H' := Aside0.mk H
            clear H
            go_wp2_with (first | ((with_reducible refine gate_callee (f := 19) rfl ?_); refine goesL_ (some 5) rfl rfl Try.func19 (by kernel_rfl) rfl #[.int .i64 a0, .int .i64 65, .int .i64 90] rfl (by (try simp only [List.map_toArray, List.map_cons, List.map_nil]); first | done | rfl | (simp only [List.length_drop, List.length_take]; rfl)) ?_; (with_reducible refine (sprref1_within.calls a0 65 90 false _ A3.out).mono ?_); rintro e w' ⟨rfl, ⟨nd, rfl⟩⟩; refine ⟨_, rfl, ?_⟩) | (go_at_call 19; (with_reducible refine (sprref1_within.calls a0 192 222 true _ A5.out).mono ?_); rintro e w' ⟨rfl, ⟨nd, rfl⟩⟩) | (go_at_call 19; (with_reducible refine (sprref1_within.calls a0 913 937 false _ A8.out).mono ?_); rintro e w' ⟨rfl, ⟨nd, rfl⟩⟩) | (go_at_call 19; (with_reducible refine (sprref1_within.calls a0 1040 1071 t219 _ A12.out).mono ?_); rintro e w' ⟨rfl, ⟨nd, rfl⟩⟩))
            go_meet
            case rel => exact ⟨_, (t219), (by first | rfl | (simp; done) | (simp [*]; done)), H', ⟨by first | omega | exact Nat.le_refl _⟩, by repeat (first | exact Drawn0.refl _ | apply Drawn0.step)⟩
        · rw [if_neg c7] at H
          have c7b0 : (a0 == 215) = false := beq_eq_false_iff_ne.mpr c7
          have c7b1 : (a0 != 215) = true := bne_iff_ne.mpr c7
          (first | rw [c7b0] | (simp only [i64_w, i32_w]; rw [c7b0]) | skip)
          have H' := Aside0.mk H
          clear H
          go_wp2_with (first | ((with_reducible refine gate_callee (f := 19) rfl ?_); refine goesL_ (some 5) rfl rfl Try.func19 (by kernel_rfl) rfl #[.int .i64 a0, .int .i64 65, .int .i64 90] rfl (by (try simp only [List.map_toArray, List.map_cons, List.map_nil]); first | done | rfl | (simp only [List.length_drop, List.length_take]; rfl)) ?_; (with_reducible refine (sprref1_within.calls a0 65 90 false _ A3.out).mono ?_); rintro e w' ⟨rfl, ⟨nd, rfl⟩⟩; refine ⟨_, rfl, ?_⟩) | (go_at_call 19; (with_reducible refine (sprref1_within.calls a0 192 222 true _ A5.out).mono ?_); rintro e w' ⟨rfl, ⟨nd, rfl⟩⟩))
          go_meet
          case rel => exact ⟨_, (true), (by first | rfl | (simp; done) | (simp [*]; done)), H', ⟨by first | omega | exact Nat.le_refl _⟩, by repeat (first | exact Drawn0.refl _ | apply Drawn0.step)⟩
      · replace c6 := Bool.eq_false_iff.mpr c6
        subst c6
        have H1 : ((sprref1_within.f a0 913 937).bind fun t220 => (if t220 = true then (if a0 = 930 then ((sprref1_within.f a0 1040 1071).bind fun t221 => (sprref1_small.j0 k a0 t221)) else (sprref1_small.j0 k a0 true)) else ((sprref1_within.f a0 1040 1071).bind fun t222 => (sprref1_small.j0 k a0 t222)))) = some r := by rw [if_neg (show ¬ (false = true) by decide)] at H; exact H
        clear H
        have H := H1
        clear H1
        replace H := Option.bind_eq_some_iff.mp H
        obtain ⟨t220, A130, H⟩ := H
        replace H : (if t220 = true then (if a0 = 930 then ((sprref1_within.f a0 1040 1071).bind fun t221 => (sprref1_small.j0 k a0 t221)) else (sprref1_small.j0 k a0 true)) else ((sprref1_within.f a0 1040 1071).bind fun t222 => (sprref1_small.j0 k a0 t222))) = some r := H
        have A13 := Aside0.mk A130
        clear A130
        by_cases c14 : t220 = true
        · subst c14
          have H1 : (if a0 = 930 then ((sprref1_within.f a0 1040 1071).bind fun t221 => (sprref1_small.j0 k a0 t221)) else (sprref1_small.j0 k a0 true)) = some r := by rw [if_pos rfl] at H; exact H
          clear H
          have H := H1
          clear H1
          by_cases c15 : a0 = 930
          · rw [if_pos c15] at H
            have c15b0 : (a0 == 930) = true := beq_iff_eq.mpr c15
            have c15b1 : (a0 != 930) = false := bne_eq_false_iff_eq.mpr c15
            clear c15
            replace H := Option.bind_eq_some_iff.mp H
            obtain ⟨t221, A160, H⟩ := H
            replace H : (sprref1_small.j0 k a0 t221) = some r := H
            have A16 := Aside0.mk A160
            clear A160
            have H' := Aside0.mk H
            clear H
            go_wp2_with (first | ((with_reducible refine gate_callee (f := 19) rfl ?_); refine goesL_ (some 5) rfl rfl Try.func19 (by kernel_rfl) rfl #[.int .i64 a0, .int .i64 65, .int .i64 90] rfl (by (try simp only [List.map_toArray, List.map_cons, List.map_nil]); first | done | rfl | (simp only [List.length_drop, List.length_take]; rfl)) ?_; (with_reducible refine (sprref1_within.calls a0 65 90 false _ A3.out).mono ?_); rintro e w' ⟨rfl, ⟨nd, rfl⟩⟩; refine ⟨_, rfl, ?_⟩) | (go_at_call 19; (with_reducible refine (sprref1_within.calls a0 192 222 false _ A5.out).mono ?_); rintro e w' ⟨rfl, ⟨nd, rfl⟩⟩) | (go_at_call 19; (with_reducible refine (sprref1_within.calls a0 913 937 true _ A13.out).mono ?_); rintro e w' ⟨rfl, ⟨nd, rfl⟩⟩) | (go_at_call 19; (with_reducible refine (sprref1_within.calls a0 1040 1071 t221 _ A16.out).mono ?_); rintro e w' ⟨rfl, ⟨nd, rfl⟩⟩))
            go_meet
            case rel => exact ⟨_, (t221), (by first | rfl | (simp; done) | (simp [*]; done)), H', ⟨by first | omega | exact Nat.le_refl _⟩, by repeat (first | exact Drawn0.refl _ | apply Drawn0.step)⟩
          · rw [if_neg c15] at H
            have c15b0 : (a0 == 930) = false := beq_eq_false_iff_ne.mpr c15
            have c15b1 : (a0 != 930) = true := bne_iff_ne.mpr c15
            have H' := Aside0.mk H
            clear H
            go_wp2_with (first | ((with_reducible refine gate_callee (f := 19) rfl ?_); refine goesL_ (some 5) rfl rfl Try.func19 (by kernel_rfl) rfl #[.int .i64 a0, .int .i64 65, .int .i64 90] rfl (by (try simp only [List.map_toArray, List.map_cons, List.map_nil]); first | done | rfl | (simp only [List.length_drop, List.length_take]; rfl)) ?_; (with_reducible refine (sprref1_within.calls a0 65 90 false _ A3.out).mono ?_); rintro e w' ⟨rfl, ⟨nd, rfl⟩⟩; refine ⟨_, rfl, ?_⟩) | (go_at_call 19; (with_reducible refine (sprref1_within.calls a0 192 222 false _ A5.out).mono ?_); rintro e w' ⟨rfl, ⟨nd, rfl⟩⟩) | (go_at_call 19; (with_reducible refine (sprref1_within.calls a0 913 937 true _ A13.out).mono ?_); rintro e w' ⟨rfl, ⟨nd, rfl⟩⟩))
            go_meet
            case rel => exact ⟨_, (true), (by first | rfl | (simp; done) | (simp [*]; done)), H', ⟨by first | omega | exact Nat.le_refl _⟩, by repeat (first | exact Drawn0.refl _ | apply Drawn0.step)⟩
        · replace c14 := Bool.eq_false_iff.mpr c14
          subst c14
          have H1 : ((sprref1_within.f a0 1040 1071).bind fun t222 => (sprref1_small.j0 k a0 t222)) = some r := by rw [if_neg (show ¬ (false = true) by decide)] at H; exact H
          clear H
          have H := H1
          clear H1
          replace H := Option.bind_eq_some_iff.mp H
          obtain ⟨t222, A170, H⟩ := H
          replace H : (sprref1_small.j0 k a0 t222) = some r := H
          have A17 := Aside0.mk A170
          clear A170
          have H' := Aside0.mk H
          clear H
          go_wp2_with (first | ((with_reducible refine gate_callee (f := 19) rfl ?_); refine goesL_ (some 5) rfl rfl Try.func19 (by kernel_rfl) rfl #[.int .i64 a0, .int .i64 65, .int .i64 90] rfl (by (try simp only [List.map_toArray, List.map_cons, List.map_nil]); first | done | rfl | (simp only [List.length_drop, List.length_take]; rfl)) ?_; (with_reducible refine (sprref1_within.calls a0 65 90 false _ A3.out).mono ?_); rintro e w' ⟨rfl, ⟨nd, rfl⟩⟩; refine ⟨_, rfl, ?_⟩) | (go_at_call 19; (with_reducible refine (sprref1_within.calls a0 192 222 false _ A5.out).mono ?_); rintro e w' ⟨rfl, ⟨nd, rfl⟩⟩) | (go_at_call 19; (with_reducible refine (sprref1_within.calls a0 913 937 false _ A13.out).mono ?_); rintro e w' ⟨rfl, ⟨nd, rfl⟩⟩) | (go_at_call 19; (with_reducible refine (sprref1_within.calls a0 1040 1071 t222 _ A17.out).mono ?_); rintro e w' ⟨rfl, ⟨nd, rfl⟩⟩))
          go_meet
          case rel => exact ⟨_, (t222), (by first | rfl | (simp; done) | (simp [*]; done)), H', ⟨by first | omega | exact Nat.le_refl _⟩, by repeat (first | exact Drawn0.refl _ | apply Drawn0.step)⟩
  case rest =>
    clear HC2
    try clear c1
    try clear c2
    try clear p2
    try clear c4
    try clear c6
    try clear c7
    try clear c7b0
    try clear c7b1
    try clear c9
    try clear c10
    try clear c10b0
    try clear c10b1
    try clear c14
    try clear c15
    try clear c15b0
    try clear c15b1
    obtain ⟨kq, x3_1, rfl, HA, HJ1, ⟨mc1, rfl⟩⟩ := hcut
    cases kq with
    | zero => exact absurd HA.out (by simp [sprref1_small.j0])
    | succ kj1 =>
      have H := HA.out
      clear HA
      simp only [sprref1_small.j0] at H
      by_cases c18 : x3_1 = true
      · subst c18
        have H1 : (some (wrap64 (a0 + 32))) = some r := by rw [if_pos rfl] at H; exact H
        clear H
        have H := H1
        clear H1
        obtain rfl := Option.some.inj H
        go_wp2
        go_ret
        exact ⟨by first | rfl | (simp; done) | (simp [*]; done), by repeat (first | exact Drawn0.refl _ | apply Drawn0.step)⟩
      · replace c18 := Bool.eq_false_iff.mpr c18
        subst c18
        have H1 : ((sprref1_within.f a0 1024 1039).bind fun t223 => (if t223 = true then (some (wrap64 (a0 + 80))) else (if (Int.tmod a0 2) = 0 then ((sprref1_within.f a0 256 311).bind fun t224 => (if t224 = true then (if a0 = 304 then ((sprref1_within.f a0 330 375).bind fun t225 => (sprref1_small.j1 kj1 a0 t225)) else (sprref1_small.j1 kj1 a0 true)) else ((sprref1_within.f a0 330 375).bind fun t226 => (sprref1_small.j1 kj1 a0 t226)))) else (sprref1_small.j1 kj1 a0 false)))) = some r := by rw [if_neg (show ¬ (false = true) by decide)] at H; exact H
        clear H
        have H := H1
        clear H1
        replace H := Option.bind_eq_some_iff.mp H
        obtain ⟨t223, A190, H⟩ := H
        replace H : (if t223 = true then (some (wrap64 (a0 + 80))) else (if (Int.tmod a0 2) = 0 then ((sprref1_within.f a0 256 311).bind fun t224 => (if t224 = true then (if a0 = 304 then ((sprref1_within.f a0 330 375).bind fun t225 => (sprref1_small.j1 kj1 a0 t225)) else (sprref1_small.j1 kj1 a0 true)) else ((sprref1_within.f a0 330 375).bind fun t226 => (sprref1_small.j1 kj1 a0 t226)))) else (sprref1_small.j1 kj1 a0 false))) = some r := H
        have A19 := Aside0.mk A190
        clear A190
        by_cases c20 : t223 = true
        · subst c20
          have H1 : (some (wrap64 (a0 + 80))) = some r := by rw [if_pos rfl] at H; exact H
          clear H
          have H := H1
          clear H1
          obtain rfl := Option.some.inj H
          go_wp2_with (first | ((with_reducible refine gate_callee (f := 19) rfl ?_); refine goesL_ (some 30) rfl rfl Try.func19 (by kernel_rfl) rfl #[.int .i64 a0, .int .i64 1024, .int .i64 1039] rfl (by (try simp only [List.map_toArray, List.map_cons, List.map_nil]); first | done | rfl | (simp only [List.length_drop, List.length_take]; rfl)) ?_; (with_reducible refine (sprref1_within.calls a0 1024 1039 true _ A19.out).mono ?_); rintro e w' ⟨rfl, ⟨nd, rfl⟩⟩; refine ⟨_, rfl, ?_⟩))
          go_ret
          exact ⟨by first | rfl | (simp; done) | (simp [*]; done), by repeat (first | exact Drawn0.refl _ | apply Drawn0.step)⟩
        · replace c20 := Bool.eq_false_iff.mpr c20
          subst c20
          have H1 : (if (Int.tmod a0 2) = 0 then ((sprref1_within.f a0 256 311).bind fun t224 => (if t224 = true then (if a0 = 304 then ((sprref1_within.f a0 330 375).bind fun t225 => (sprref1_small.j1 kj1 a0 t225)) else (sprref1_small.j1 kj1 a0 true)) else ((sprref1_within.f a0 330 375).bind fun t226 => (sprref1_small.j1 kj1 a0 t226)))) else (sprref1_small.j1 kj1 a0 false)) = some r := by rw [if_neg (show ¬ (false = true) by decide)] at H; exact H
          clear H
          have H := H1
          clear H1
          have HC21 := Aside0.mk H
          clear H
          go_upto_region 5 with (first | ((with_reducible refine gate_callee (f := 19) rfl ?_); refine goesL_ (some 30) rfl rfl Try.func19 (by kernel_rfl) rfl #[.int .i64 a0, .int .i64 1024, .int .i64 1039] rfl (by (try simp only [List.map_toArray, List.map_cons, List.map_nil]); first | done | rfl | (simp only [List.length_drop, List.length_take]; rfl)) ?_; (with_reducible refine (sprref1_within.calls a0 1024 1039 false _ A19.out).mono ?_); rintro e w' ⟨rfl, ⟨nd, rfl⟩⟩; refine ⟨_, rfl, ?_⟩))
          (try simp only [Act.put, List.setIfInBounds_toArray, List.set_cons_zero, List.set_cons_succ])
          go_cut [33] (fun v33 wc => ∃ (kq : Nat) (x33_20 : Bool), v33 = .bool x33_20 ∧ Aside0 (sprref1_small.j1 kq a0 x33_20 = some r) ∧ Aside0 (kq ≤ kj1) ∧ Drawn0 w wc)
          case first =>
            have H := HC21.out
            clear HC21
            by_cases c22 : (Int.tmod a0 2) = 0
            · rw [if_pos c22] at H
              have c22b0 : ((Int.tmod a0 2) == 0) = true := beq_iff_eq.mpr c22
              have c22b1 : ((Int.tmod a0 2) != 0) = false := bne_eq_false_iff_eq.mpr c22
              clear c22
              (first | rw [c22b0] | (simp only [i64_w, i32_w]; rw [c22b0]) | skip)
              replace H := Option.bind_eq_some_iff.mp H
              obtain ⟨t224, A230, H⟩ := H
              replace H : (if t224 = true then (if a0 = 304 then ((sprref1_within.f a0 330 375).bind fun t225 => (sprref1_small.j1 kj1 a0 t225)) else (sprref1_small.j1 kj1 a0 true)) else ((sprref1_within.f a0 330 375).bind fun t226 => (sprref1_small.j1 kj1 a0 t226))) = some r := H
              have A23 := Aside0.mk A230
              clear A230
              by_cases c24 : t224 = true
              · subst c24
                have H1 : (if a0 = 304 then ((sprref1_within.f a0 330 375).bind fun t225 => (sprref1_small.j1 kj1 a0 t225)) else (sprref1_small.j1 kj1 a0 true)) = some r := by rw [if_pos rfl] at H; exact H
                clear H
                have H := H1
                clear H1
                by_cases c25 : a0 = 304
                · rw [if_pos c25] at H
                  have c25b0 : (a0 == 304) = true := beq_iff_eq.mpr c25
                  have c25b1 : (a0 != 304) = false := bne_eq_false_iff_eq.mpr c25
                  clear c25
                  replace H := Option.bind_eq_some_iff.mp H
                  obtain ⟨t225, A260, H⟩ := H
                  replace H : (sprref1_small.j1 kj1 a0 t225) = some r := H
                  have A26 := Aside0.mk A260
                  clear A260
                  have H' := Aside0.mk H
                  clear H
                  go_wp2_with (first | (go_at_call 19; (with_reducible refine (sprref1_within.calls a0 256 311 true _ A23.out).mono ?_); rintro e w' ⟨rfl, ⟨nd, rfl⟩⟩) | (go_at_call 19; (with_reducible refine (sprref1_within.calls a0 330 375 t225 _ A26.out).mono ?_); rintro e w' ⟨rfl, ⟨nd, rfl⟩⟩))
                  go_meet
                  case rel => exact ⟨_, (t225), (by first | rfl | (simp; done) | (simp [*]; done)), H', ⟨by have := HJ1.out; first | omega | exact Nat.le_refl _⟩, by repeat (first | exact Drawn0.refl _ | apply Drawn0.step)⟩
                · rw [if_neg c25] at H
                  have c25b0 : (a0 == 304) = false := beq_eq_false_iff_ne.mpr c25
                  have c25b1 : (a0 != 304) = true := bne_iff_ne.mpr c25
                  have H' := Aside0.mk H
                  clear H
                  go_wp2_with (first | (go_at_call 19; (with_reducible refine (sprref1_within.calls a0 256 311 true _ A23.out).mono ?_); rintro e w' ⟨rfl, ⟨nd, rfl⟩⟩))
                  go_meet
                  case rel => exact ⟨_, (true), (by first | rfl | (simp; done) | (simp [*]; done)), H', ⟨by have := HJ1.out; first | omega | exact Nat.le_refl _⟩, by repeat (first | exact Drawn0.refl _ | apply Drawn0.step)⟩
              · replace c24 := Bool.eq_false_iff.mpr c24
                subst c24
                have H1 : ((sprref1_within.f a0 330 375).bind fun t226 => (sprref1_small.j1 kj1 a0 t226)) = some r := by rw [if_neg (show ¬ (false = true) by decide)] at H; exact H
                clear H
                have H := H1
                clear H1
                replace H := Option.bind_eq_some_iff.mp H
                obtain ⟨t226, A270, H⟩ := H
                replace H : (sprref1_small.j1 kj1 a0 t226) = some r := H
                have A27 := Aside0.mk A270
                clear A270
                have H' := Aside0.mk H
                clear H
                go_wp2_with (first | (go_at_call 19; (with_reducible refine (sprref1_within.calls a0 256 311 false _ A23.out).mono ?_); rintro e w' ⟨rfl, ⟨nd, rfl⟩⟩) | (go_at_call 19; (with_reducible refine (sprref1_within.calls a0 330 375 t226 _ A27.out).mono ?_); rintro e w' ⟨rfl, ⟨nd, rfl⟩⟩))
                go_meet
                case rel => exact ⟨_, (t226), (by first | rfl | (simp; done) | (simp [*]; done)), H', ⟨by have := HJ1.out; first | omega | exact Nat.le_refl _⟩, by repeat (first | exact Drawn0.refl _ | apply Drawn0.step)⟩
            · rw [if_neg c22] at H
              have c22b0 : ((Int.tmod a0 2) == 0) = false := beq_eq_false_iff_ne.mpr c22
              have c22b1 : ((Int.tmod a0 2) != 0) = true := bne_iff_ne.mpr c22
              (first | rw [c22b0] | (simp only [i64_w, i32_w]; rw [c22b0]) | skip)
              have H' := Aside0.mk H
              clear H
              go_wp2
              go_meet
              case rel => exact ⟨_, (false), (by first | rfl | (simp; done) | (simp [*]; done)), H', ⟨by have := HJ1.out; first | omega | exact Nat.le_refl _⟩, by repeat (first | exact Drawn0.refl _ | apply Drawn0.step)⟩
          case rest =>
            clear HC21
            try clear c1
            try clear c2
            try clear p2
            try clear c4
            try clear c6
            try clear p6
            try clear c7
            try clear c7b0
            try clear c7b1
            try clear c9
            try clear c10
            try clear c10b0
            try clear c10b1
            try clear c14
            try clear c15
            try clear c15b0
            try clear c15b1
            try clear c18
            try clear c19
            try clear c20
            try clear c21
            try clear c22
            try clear c22b0
            try clear c22b1
            try clear c24
            try clear c25
            try clear c25b0
            try clear c25b1
            try clear p2
            obtain ⟨kq, x33_20, rfl, HA, HJ20, ⟨mc20, rfl⟩⟩ := hcut
            cases kq with
            | zero => exact absurd HA.out (by simp [sprref1_small.j1])
            | succ kj20 =>
              have H := HA.out
              clear HA
              simp only [sprref1_small.j1] at H
              by_cases c28 : x33_20 = true
              · subst c28
                have H1 : (some (wrap64 (a0 + 1))) = some r := by rw [if_pos rfl] at H; exact H
                clear H
                have H := H1
                clear H1
                obtain rfl := Option.some.inj H
                go_wp2
                go_ret
                exact ⟨by first | rfl | (simp; done) | (simp [*]; done), by repeat (first | exact Drawn0.refl _ | apply Drawn0.step)⟩
              · replace c28 := Bool.eq_false_iff.mpr c28
                subst c28
                have H1 : (if (Int.tmod a0 2) = 1 then ((sprref1_within.f a0 313 328).bind fun t227 => (if t227 = true then (sprref1_small.j2 kj20 a0 true) else ((sprref1_within.f a0 377 382).bind fun t228 => (sprref1_small.j2 kj20 a0 t228)))) else (sprref1_small.j2 kj20 a0 false)) = some r := by rw [if_neg (show ¬ (false = true) by decide)] at H; exact H
                clear H
                have H := H1
                clear H1
                have HC29 := Aside0.mk H
                clear H
                go_upto_region 7 with (fail)
                go_cut [51] (fun v51 wc => ∃ (kq : Nat) (x51_28 : Bool), v51 = .bool x51_28 ∧ Aside0 (sprref1_small.j2 kq a0 x51_28 = some r) ∧ Aside0 (kq ≤ kj20) ∧ Drawn0 w wc)
                case first =>
                  have H := HC29.out
                  clear HC29
                  by_cases c30 : (Int.tmod a0 2) = 1
                  · rw [if_pos c30] at H
                    have c30b0 : ((Int.tmod a0 2) == 1) = true := beq_iff_eq.mpr c30
                    have c30b1 : ((Int.tmod a0 2) != 1) = false := bne_eq_false_iff_eq.mpr c30
                    clear c30
                    (first | rw [c30b0] | (simp only [i64_w, i32_w]; rw [c30b0]) | skip)
                    replace H := Option.bind_eq_some_iff.mp H
                    obtain ⟨t227, A310, H⟩ := H
                    replace H : (if t227 = true then (sprref1_small.j2 kj20 a0 true) else ((sprref1_within.f a0 377 382).bind fun t228 => (sprref1_small.j2 kj20 a0 t228))) = some r := H
                    have A31 := Aside0.mk A310
                    clear A310
                    by_cases c32 : t227 = true
                    · subst c32
                      have H1 : (sprref1_small.j2 kj20 a0 true) = some r := by rw [if_pos rfl] at H; exact H
                      clear H
                      have H := H1
                      clear H1
                      have H' := Aside0.mk H
                      clear H
                      go_wp2_with (first | (go_at_call 19; (with_reducible refine (sprref1_within.calls a0 313 328 true _ A31.out).mono ?_); rintro e w' ⟨rfl, ⟨nd, rfl⟩⟩))
                      go_meet
                      case rel => exact ⟨_, (true), (by first | rfl | (simp; done) | (simp [*]; done)), H', ⟨by have := HJ1.out; have := HJ20.out; first | omega | exact Nat.le_refl _⟩, by repeat (first | exact Drawn0.refl _ | apply Drawn0.step)⟩
                    · replace c32 := Bool.eq_false_iff.mpr c32
                      subst c32
                      have H1 : ((sprref1_within.f a0 377 382).bind fun t228 => (sprref1_small.j2 kj20 a0 t228)) = some r := by rw [if_neg (show ¬ (false = true) by decide)] at H; exact H
                      clear H
                      have H := H1
                      clear H1
                      replace H := Option.bind_eq_some_iff.mp H
                      obtain ⟨t228, A330, H⟩ := H
                      replace H : (sprref1_small.j2 kj20 a0 t228) = some r := H
                      have A33 := Aside0.mk A330
                      clear A330
                      have H' := Aside0.mk H
                      clear H
                      go_wp2_with (first | (go_at_call 19; (with_reducible refine (sprref1_within.calls a0 313 328 false _ A31.out).mono ?_); rintro e w' ⟨rfl, ⟨nd, rfl⟩⟩) | (go_at_call 19; (with_reducible refine (sprref1_within.calls a0 377 382 t228 _ A33.out).mono ?_); rintro e w' ⟨rfl, ⟨nd, rfl⟩⟩))
                      go_meet
                      case rel => exact ⟨_, (t228), (by first | rfl | (simp; done) | (simp [*]; done)), H', ⟨by have := HJ1.out; have := HJ20.out; first | omega | exact Nat.le_refl _⟩, by repeat (first | exact Drawn0.refl _ | apply Drawn0.step)⟩
                  · rw [if_neg c30] at H
                    have c30b0 : ((Int.tmod a0 2) == 1) = false := beq_eq_false_iff_ne.mpr c30
                    have c30b1 : ((Int.tmod a0 2) != 1) = true := bne_iff_ne.mpr c30
                    (first | rw [c30b0] | (simp only [i64_w, i32_w]; rw [c30b0]) | skip)
                    have H' := Aside0.mk H
                    clear H
                    go_wp2
                    go_meet
                    case rel => exact ⟨_, (false), (by first | rfl | (simp; done) | (simp [*]; done)), H', ⟨by have := HJ1.out; have := HJ20.out; first | omega | exact Nat.le_refl _⟩, by repeat (first | exact Drawn0.refl _ | apply Drawn0.step)⟩
                case rest =>
                  clear HC29
                  try clear c1
                  try clear c2
                  try clear p2
                  try clear c3
                  try clear c4
                  try clear c6
                  try clear p6
                  try clear c7
                  try clear c7b0
                  try clear c7b1
                  try clear c9
                  try clear c10
                  try clear c10b0
                  try clear c10b1
                  try clear c14
                  try clear c15
                  try clear c15b0
                  try clear c15b1
                  try clear c18
                  try clear c19
                  try clear c20
                  try clear c21
                  try clear c22
                  try clear c22b0
                  try clear c22b1
                  try clear c24
                  try clear c25
                  try clear c25b0
                  try clear c25b1
                  try clear c28
                  try clear c30
                  try clear c30b0
                  try clear c30b1
                  try clear c32
                  try clear p2
                  try clear p6
                  obtain ⟨kq, x51_28, rfl, HA, HJ28, ⟨mc28, rfl⟩⟩ := hcut
                  cases kq with
                  | zero => exact absurd HA.out (by simp [sprref1_small.j2])
                  | succ kj28 =>
                    have H := HA.out
                    clear HA
                    simp only [sprref1_small.j2] at H
                    by_cases c34 : x51_28 = true
                    · subst c34
                      have H1 : (some (wrap64 (a0 + 1))) = some r := by rw [if_pos rfl] at H; exact H
                      clear H
                      have H := H1
                      clear H1
                      obtain rfl := Option.some.inj H
                      go_wp2
                      go_ret
                      exact ⟨by first | rfl | (simp; done) | (simp [*]; done), by repeat (first | exact Drawn0.refl _ | apply Drawn0.step)⟩
                    · replace c34 := Bool.eq_false_iff.mpr c34
                      subst c34
                      have H1 : (if a0 = 376 then (some 255) else (if a0 = 383 then (some 115) else (some 0))) = some r := by rw [if_neg (show ¬ (false = true) by decide)] at H; exact H
                      clear H
                      have H := H1
                      clear H1
                      by_cases c35 : a0 = 376
                      · rw [if_pos c35] at H
                        have c35b0 : (a0 == 376) = true := beq_iff_eq.mpr c35
                        have c35b1 : (a0 != 376) = false := bne_eq_false_iff_eq.mpr c35
                        clear c35
                        obtain rfl := Option.some.inj H
                        go_wp2
                        go_ret
                        exact ⟨by first | rfl | (simp; done) | (simp [*]; done), by repeat (first | exact Drawn0.refl _ | apply Drawn0.step)⟩
                      · rw [if_neg c35] at H
                        have c35b0 : (a0 == 376) = false := beq_eq_false_iff_ne.mpr c35
                        have c35b1 : (a0 != 376) = true := bne_iff_ne.mpr c35
                        by_cases c36 : a0 = 383
                        · rw [if_pos c36] at H
                          have c36b0 : (a0 == 383) = true := beq_iff_eq.mpr c36
                          have c36b1 : (a0 != 383) = false := bne_eq_false_iff_eq.mpr c36
                          clear c36
                          obtain rfl := Option.some.inj H
                          go_wp2
                          go_ret
                          exact ⟨by first | rfl | (simp; done) | (simp [*]; done), by repeat (first | exact Drawn0.refl _ | apply Drawn0.step)⟩
                        · rw [if_neg c36] at H
                          have c36b0 : (a0 == 383) = false := beq_eq_false_iff_ne.mpr c36
                          have c36b1 : (a0 != 383) = true := bne_iff_ne.mpr c36
                          obtain rfl := Option.some.inj H
                          go_wp2
                          go_ret
                          exact ⟨by first | rfl | (simp; done) | (simp [*]; done), by repeat (first | exact Drawn0.refl _ | apply Drawn0.step)⟩

end Go.Proofs.Ytodncacbadjgnaa.PAll
