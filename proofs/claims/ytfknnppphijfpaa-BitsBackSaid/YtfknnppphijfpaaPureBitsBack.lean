/- For every input the law returns true. No conditions. -/
import Derived.Test.YtfknnppphijfpaaPAllx8
import Derived.Laws.BitsLemmas
import Derived.Test.YtfknnppphijfpaaComH
namespace Go.Proofs.Ytfknnppphijfpaa.Pure
open Go.RowKit Go.Proofs.Ytfknnppphijfpaa.PAll Go.Proofs.YtfknnppphijfpaaW.PrintWords Go.Proofs.YtfknnppphijfpaaW.PrintLast Go.Proofs.YtfknnppphijfpaaW.PrintMore

theorem step256_eq (n x : Int) (h0 : 0 ≤ n) (h1 : n < 140737488355328) (k0 : 0 ≤ x) (k1 : x < 256) : step256 n x = n * 256 + x := by
  unfold step256
  rw [wrap_small (by omega) (by omega), wrap_small (by omega) (by omega)]
  refine bits_join .i64 63 (by decide) (fun m a b => ?_) 8 _ _ (by omega) (by omega) (by omega) k0 (by omega) (by omega)
  rw [IntKind.wrap_i64]
  omega
theorem num_bytes (n : Int) (h0 : 0 ≤ n) : ∀ w : Nat, w ≤ 6 → n / 2 ^ (8 * w) < 140737488355328 → n < 281474976710656 → numN (n / 2 ^ (8 * w)) (bytesN n w) = n
  | 0, _, _, _ => by simp [bytesN, numN]
  | w + 1, hw, hb, hn => by
    have hp : (2 : Int) ^ (8 * (w + 1)) = 2 ^ (8 * w) * 256 := by rw [show 8 * (w + 1) = 8 * w + 8 by omega, Int.pow_add]; rfl
    have hq : (0 : Int) < 2 ^ (8 * w) := Int.pow_pos (by decide)
    have e : n / 2 ^ (8 * (w + 1)) = n / 2 ^ (8 * w) / 256 := by rw [hp, Int.ediv_ediv_of_nonneg (by omega)]
    have hnn : 0 ≤ n / 2 ^ (8 * w) := Int.ediv_nonneg h0 (by omega)
    rw [e] at hb
    rw [bytesN, numN, e, step256_eq _ _ (by omega) hb (by omega) (by omega)]
    have e2 : n / 2 ^ (8 * w) / 256 * 256 + n / 2 ^ (8 * w) % 256 = n / 2 ^ (8 * w) := by omega
    rw [e2]
    by_cases hw0 : w = 0
    · subst hw0
      simp [bytesN, numN]
    · refine num_bytes n h0 w (by omega) ?_ hn
      obtain ⟨v, rfl⟩ : ∃ v, w = v + 1 := ⟨w - 1, by omega⟩
      have hp2 : (2 : Int) ^ (8 * (v + 1)) = 2 ^ (8 * v) * 256 := by rw [show 8 * (v + 1) = 8 * v + 8 by omega, Int.pow_add]; rfl
      have hq2 : (0 : Int) < 2 ^ (8 * v) := Int.pow_pos (by decide)
      have hle : n / 2 ^ (8 * v) ≤ n := Int.ediv_le_self _ h0
      rw [hp2, ← Int.ediv_ediv_of_nonneg (by omega)]
      omega
theorem num_back (n w : Int) (h : bad n w = false) : numN 0 (bytesN n w.toNat) = n := by
  unfold bad at h
  simp only [Bool.or_eq_false_iff, decide_eq_false_iff_not] at h
  obtain ⟨⟨⟨h1, h2⟩, h3⟩, h4⟩ := h
  have hnn : 0 ≤ n / 2 ^ (8 * w.toNat) := Int.ediv_nonneg (by omega) (Int.le_of_lt (Int.pow_pos (by decide)))
  have hz : n / 2 ^ (8 * w.toNat) = 0 := by omega
  have hlt : n < 2 ^ (8 * w.toNat) := by
    have hp : (0 : Int) < 2 ^ (8 * w.toNat) := Int.pow_pos (by decide)
    have hm := Int.emod_lt_of_pos n hp
    have hd := Int.mul_ediv_add_emod n (2 ^ (8 * w.toNat))
    rw [hz] at hd
    omega
  have hle : (2 : Int) ^ (8 * w.toNat) ≤ 2 ^ 48 := by
    have : (2 : Nat) ^ (8 * w.toNat) ≤ 2 ^ 48 := Nat.pow_le_pow_right (by decide) (by omega)
    exact_mod_cast this
  have e : (2 : Int) ^ 48 = 281474976710656 := by decide
  have := num_bytes n (by omega) w.toNat (by omega) (by omega) (by omega)
  rwa [hz] at this
theorem BitsBack : sprlaw1_BitsBack.Pure := by
  intro n w l _ _ _ hs hw
  have hb : ∀ x ∈ l, 0 ≤ x ∧ x ≤ 255 := fun x hx => wf_u8 (hw x hx)
  refine Ev.rounds (g := fun k => sprlaw1_BitsBack.f k n w l) ?_
  simp only [sprlaw1_BitsBack.f]
  refine Ev.bind first_ev ?_
  simp only [if_true]
  by_cases c1 : (l.length : Int) > 8000
  · simp only [if_pos c1]
    exact Ev.bind first_ev (Ev.now _)
  simp only [if_neg c1]
  refine Ev.bind (bput n w) ?_
  refine Ev.bind (bhex l hb (by omega)) ?_
  have hu := bunhex (strOfNums (hexL l)) (by rw [strOfNums_size, hexL_length]; omega)
  rw [bytesOf_str _ (hexL_bd l), unlow_hexL l hb] at hu
  refine Ev.bind hu ?_
  simp only [told, List.nil_append, if_true, bytes_same, Option.bind_some, Bool.not_true]
  cases hbad : bad n w with
  | true =>
    simp only [if_true]
    refine Ev.step (f := fun k => (sprlaw1_first.f k).bind fun t => if t = true then some true else some false) (fun k => ?_) (Ev.bind first_ev ?_)
    · rw [sprlaw1_BitsBack.j0, if_neg (by decide), if_neg (by decide)]
      rfl
    · simp only [if_true]
      exact Ev.now _
  | false =>
    have hnb := num_back n w hbad
    have hlen := bytesN_length n w.toNat
    have hwd : 1 ≤ w ∧ w ≤ 6 := by
      unfold bad at hbad
      simp only [Bool.or_eq_false_iff, decide_eq_false_iff_not] at hbad
      omega
    simp only [Bool.false_eq_true, if_false]
    refine Ev.step (f := fun k => (bits_Get.f k (l ++ bytesN n w.toNat) (l.length : Int) w).bind fun b282 => ((bits_Get.f k (l ++ bytesN n w.toNat) ((l.length : Int) + 1) w).bind fun b290 => ((sprlaw1_first.f k).bind fun t292 => if t292 = true then (if ((bytesN n w.toNat).length : Int) = w then (if b282.2 = 0 then (if b282.1 = n then (some (b290.2 == 2)) else (some false)) else (some false)) else (some false)) else (some false)))) (fun k => ?_) ?_
    · rw [sprlaw1_BitsBack.j0, if_neg (by decide), if_pos rfl, copy_eq l (by omega), Option.bind_some, if_pos (by omega), wrap_small (by omega) (by omega)]
      simp only [Option.bind_some, if_pos (show l.length + (bytesN n w.toNat).length < 140737488355328 by omega)]
    · refine Ev.bind (bget _ _ w (by rw [List.length_append]; omega)) ?_
      refine Ev.bind (bget _ _ w (by rw [List.length_append]; omega)) ?_
      refine Ev.bind first_ev ?_
      have g1 : got (l ++ bytesN n w.toNat) (l.length : Int) w = (n, 0) := by
        unfold got
        rw [List.length_append, hlen, if_neg (by omega), if_neg (by omega), Int.toNat_natCast, List.drop_left, List.take_of_length_le (by omega), hnb]
      have g2 : got (l ++ bytesN n w.toNat) ((l.length : Int) + 1) w = (0, 2) := by
        unfold got
        rw [List.length_append, hlen, if_neg (by omega), if_pos (by omega)]
      simp only [g1, g2, if_true, if_pos (show ((bytesN n w.toNat).length : Int) = w by omega), beq_self_eq_true]
      exact Ev.now _

end Go.Proofs.Ytfknnppphijfpaa.Pure
