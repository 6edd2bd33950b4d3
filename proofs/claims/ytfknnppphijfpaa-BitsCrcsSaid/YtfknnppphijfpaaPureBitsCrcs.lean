/- For every input the law returns true. No conditions. -/
import Derived.Test.YtfknnppphijfpaaPAllx3
import Derived.Test.YtfknnppphijfpaaComA
namespace Go.Proofs.Ytfknnppphijfpaa.Pure
open Go.RowKit Go.Proofs.Ytfknnppphijfpaa.PAll Go.Proofs.YtfknnppphijfpaaW.PrintWords Go.Proofs.YtfknnppphijfpaaW.PrintLast Go.Proofs.YtfknnppphijfpaaW.PrintMore

theorem copy_eq (l : List Int) (h : l.length < 140737488355328) : sprref_CopyBytes.f l = some l := by
  simp [sprref_CopyBytes.f, h]
theorem crc_lt (ns : List Nat) (hn : ∀ n ∈ ns, n < 256) : crc ns < 4294967296 :=
  Nat.xor_lt_two_pow (n := 32) (by decide) (Crc.run_lt ns (by decide) hn)
theorem xor3_length : ∀ (a b c : List Nat), b.length = a.length → c.length = a.length → (Crc.xor3 a b c).length = a.length
  | [], [], [], _, _ => rfl
  | [], _ :: _, _, h, _ => by simp at h
  | [], [], _ :: _, _, h => by simp at h
  | _ :: _, [], _, h, _ => by simp at h
  | _ :: _, _ :: _, [], _, h => by simp at h
  | x :: a, y :: b, z :: c, h, k => by
    simp only [Crc.xor3, List.length_cons] at *
    rw [xor3_length a b c (by omega) (by omega)]
theorem xor3_at : ∀ (a b c : List Nat) (hb : b.length = a.length) (hc : c.length = a.length) (i : Nat) (h : i < a.length), (Crc.xor3 a b c)[i]'(by rw [xor3_length a b c hb hc]; exact h) = a[i] ^^^ b[i] ^^^ c[i]
  | [], [], [], _, _, _, h => by simp at h
  | [], _ :: _, _, h, _, _, _ => by simp at h
  | [], [], _ :: _, _, h, _, _ => by simp at h
  | _ :: _, [], _, h, _, _, _ => by simp at h
  | _ :: _, _ :: _, [], _, h, _, _ => by simp at h
  | x :: a, y :: b, z :: c, hb, hc, i, h => by
    cases i with
    | zero => rfl
    | succ i => exact xor3_at a b c (by simpa using hb) (by simpa using hc) i (by simpa using h)
theorem xor3_lt : ∀ (a b c : List Nat), (∀ n ∈ a, n < 256) → (∀ n ∈ b, n < 256) → (∀ n ∈ c, n < 256) → ∀ n ∈ Crc.xor3 a b c, n < 256
  | [], _, _, _, _, _ => by intro n hn; simp [Crc.xor3] at hn
  | _ :: _, [], _, _, _, _ => by intro n hn; simp [Crc.xor3] at hn
  | _ :: _, _ :: _, [], _, _, _ => by intro n hn; simp [Crc.xor3] at hn
  | x :: a, y :: b, z :: c, h1, h2, h3 => by
    intro n hn
    rcases List.mem_cons.mp hn with rfl | hn
    · exact Nat.xor_lt_two_pow (n := 8) (Nat.xor_lt_two_pow (n := 8) (h1 x (by simp)) (h2 y (by simp))) (h3 z (by simp))
    · exact xor3_lt a b c (fun m hm => h1 m (by simp [hm])) (fun m hm => h2 m (by simp [hm])) (fun m hm => h3 m (by simp [hm])) n hn
theorem crc_xor3 (a b c : List Nat) (hb : b.length = a.length) (hc : c.length = a.length) : crc (Crc.xor3 a b c) = crc a ^^^ crc b ^^^ crc c := by
  have h := Crc.run_xor3 a b c 4294967295 4294967295 4294967295 hb hc
  rw [Nat.xor_self, Nat.zero_xor] at h
  unfold crc
  rw [h]
  generalize Crc.run 4294967295 a = A
  generalize Crc.run 4294967295 b = B
  generalize Crc.run 4294967295 c = C
  have e : (4294967295 ^^^ A) ^^^ (4294967295 ^^^ B) ^^^ (4294967295 ^^^ C) = (4294967295 ^^^ 4294967295) ^^^ (4294967295 ^^^ (A ^^^ B ^^^ C)) := by ac_rfl
  rw [e, Nat.xor_self, Nat.zero_xor]
/-- The row that is filled, after i rounds. -/
def filled (ds : List Nat) (i : Nat) : List Nat := ds.take i ++ List.replicate (ds.length - i) 0
theorem filled_length (ds : List Nat) (i : Nat) (h : i ≤ ds.length) : (filled ds i).length = ds.length := by
  simp [filled]; omega
theorem filled_set (ds : List Nat) (i : Nat) (h : i < ds.length) : (filled ds i).set i ds[i] = filled ds (i + 1) := by
  unfold filled
  have hr : ds.length - i = (ds.length - (i + 1)) + 1 := by omega
  rw [List.set_append_right _ _ (by simp; omega), List.take_succ_eq_append_getElem h, hr, List.replicate_succ]
  have : i - (ds.take i).length = 0 := by simp; omega
  rw [this, List.set_cons_zero, List.append_assoc]
  rfl
theorem ofN_set (ns : List Nat) (i x : Nat) : (ofN ns).set i (x : Int) = ofN (ns.set i x) := by simp [ofN, List.map_set]
theorem ofN_replicate (n : Nat) : List.replicate n (0 : Int) = ofN (List.replicate n 0) := by simp [ofN]
theorem crcs_end (a : List Nat) (ha : ∀ n ∈ a, n < 256) (hl : a.length ≤ 8000) (at_ x : Int) (hx : (Lit.int .u8 x).wf = true) :
    Ev (fun k => if at_ < 0 then (sprlaw1_BitsCrcs.j2 k (ofN a) at_ x (ofN a) true) else (if at_ ≥ ((ofN a).length : Int) then (sprlaw1_BitsCrcs.j2 k (ofN a) at_ x (ofN a) true) else (sprlaw1_BitsCrcs.j2 k (ofN a) at_ x (ofN a) (x == 0)))) true := by
  have hx := wf_u8 hx
  have yes : Ev (fun k => sprlaw1_BitsCrcs.j2 k (ofN a) at_ x (ofN a) true) true := by
    refine Ev.step (fun k => ?_) (Ev.bind first_ev (Ev.now _))
    simp only [sprlaw1_BitsCrcs.j2, if_true]
  by_cases c1 : at_ < 0
  · simp only [if_pos c1]; exact yes
  simp only [if_neg c1]
  by_cases c2 : at_ ≥ ((ofN a).length : Int)
  · simp only [if_pos c2]; exact yes
  simp only [if_neg c2]
  by_cases c3 : x = 0
  · simp only [c3, beq_self_eq_true]; rw [c3] at yes; exact yes
  have c3' : (x == 0) = false := beq_eq_false_iff_ne.mpr c3
  simp only [c3']
  rw [ofN_length] at c2
  obtain ⟨i, rfl⟩ := Int.eq_ofNat_of_zero_le (by omega : 0 ≤ at_)
  obtain ⟨y, rfl⟩ := Int.eq_ofNat_of_zero_le hx.1
  have hi : i < a.length := by omega
  have hai := ha a[i] (List.getElem_mem hi)
  have hset : ((ofN a).set ((i : Int)).toNat (Go.bits .xor .u8 (rd (ofN a) (i : Int)) (y : Int))) = ofN (a.set i (a[i] ^^^ y)) := by
    rw [rd_ofN a i hi, u8_xor_nat _ _ hai (by omega), Int.toNat_natCast, ofN_set]
  have hlt : a[i] ^^^ y < 256 := Nat.xor_lt_two_pow (n := 8) hai (by omega)
  have hset_lt : ∀ n ∈ a.set i (a[i] ^^^ y), n < 256 := by
    intro n hn
    rcases List.mem_or_eq_of_mem_set hn with hn | rfl
    · exact ha n hn
    · exact hlt
  have hne : crc (a.set i (a[i] ^^^ y)) ≠ crc a := by
    intro e
    refine Crc.run_set a i 4294967295 (a[i] ^^^ y) (by decide) ha hi hlt (fun h => ?_) ?_
    · have h2 := congrArg (a[i] ^^^ ·) h
      simp only [Nat.xor_self, ← Nat.xor_assoc, Nat.zero_xor] at h2
      omega
    · unfold crc at e
      have h2 := congrArg (4294967295 ^^^ ·) e
      simpa only [Nat.xor_self, ← Nat.xor_assoc, Nat.zero_xor] using h2
  refine Ev.step (f := fun k => (sprlaw1_first.f k).bind fun t => if t = true then ((bits_Crc.f k (ofN (a.set i (a[i] ^^^ y)))).bind fun t167 => ((bits_Crc.f k (ofN a)).bind fun t168 => (some (t167 != t168)))) else (some false)) (fun k => ?_) ?_
  · rw [sprlaw1_BitsCrcs.j2, if_neg (by decide), if_pos (by omega), if_pos (by rw [ofN_length]; omega), hset]
  · refine Ev.bind first_ev ?_
    simp only [if_true]
    refine Ev.bind (crc_ev _ hset_lt (by rw [List.length_set]; omega)) ?_
    refine Ev.bind (crc_ev _ ha (by omega)) ?_
    have : (((crc (a.set i (a[i] ^^^ y)) : Nat) : Int) != ((crc a : Nat) : Int)) = true := by
      rw [bne_iff_ne]; omega
    rw [this]
    exact Ev.now _
theorem crcs_l0 (a b c : List Nat) (ha : ∀ n ∈ a, n < 256) (hb : ∀ n ∈ b, n < 256) (hc : ∀ n ∈ c, n < 256) (hbl : b.length = a.length) (hcl : c.length = a.length) (hl : a.length ≤ 8000)
    (at_ x : Int) (hx : (Lit.int .u8 x).wf = true) : ∀ (d i : Nat), i + d = a.length → ∀ i' : Int, i' = (i : Int) →
    Ev (fun k => sprlaw1_BitsCrcs.l0 k (ofN a) (ofN b) (ofN c) at_ x (ofN (filled (Crc.xor3 a b c) i)) (ofN a) i') true := by
  have hdl := xor3_length a b c hbl hcl
  intro d
  induction d with
  | zero =>
    intro i hi i' e
    subst e
    have hf : filled (Crc.xor3 a b c) i = Crc.xor3 a b c := by
      unfold filled
      rw [List.take_of_length_le (by omega), show (Crc.xor3 a b c).length - i = 0 by omega]
      simp
    refine Ev.step (f := fun k => _) (fun k => by rw [sprlaw1_BitsCrcs.l0, if_neg (by rw [ofN_length]; omega)]) ?_
    rw [hf]
    refine Ev.bind (crc_ev _ (xor3_lt a b c ha hb hc) (by omega)) ?_
    refine Ev.bind (crc_ev a ha (by omega)) ?_
    refine Ev.bind (crc_ev b hb (by omega)) ?_
    refine Ev.bind (crc_ev c hc (by omega)) ?_
    have la := crc_lt a ha
    have lb := crc_lt b hb
    have lc := crc_lt c hc
    have e2 : ((crc (Crc.xor3 a b c) : Nat) : Int) = Go.bits .xor .u32 (Go.bits .xor .u32 ((crc a : Nat) : Int) ((crc b : Nat) : Int)) ((crc c : Nat) : Int) := by
      rw [xor32 _ _ la lb, xor32 _ _ (Nat.xor_lt_two_pow (n := 32) la lb) lc, crc_xor3 a b c hbl hcl]
    simp only [if_pos e2]
    exact crcs_end a ha hl at_ x hx
  | succ d ih =>
    intro i hi i' e
    subst e
    have hlt : i < a.length := by omega
    refine Ev.step (fun k => ?_) (ih (i + 1) (by omega) (wrap64 (i + 1)) (by rw [wrap_small (by omega) (by omega)]; omega))
    rw [sprlaw1_BitsCrcs.l0, if_pos (by rw [ofN_length]; omega), if_pos (by omega), if_pos (by rw [ofN_length]; omega), if_pos (by rw [ofN_length]; omega), if_pos (by rw [ofN_length, filled_length _ _ (by omega)]; omega)]
    rw [rd_ofN a i hlt, rd_ofN b i (by omega), rd_ofN c i (by omega), Int.toNat_natCast]
    have h1 := ha a[i] (List.getElem_mem hlt)
    have h2 := hb (b[i]'(by omega)) (List.getElem_mem _)
    have h3 := hc (c[i]'(by omega)) (List.getElem_mem _)
    rw [u8_xor_nat _ _ h1 h2, u8_xor_nat _ _ (Nat.xor_lt_two_pow (n := 8) h1 h2) h3, ofN_set, ← xor3_at a b c hbl hcl i hlt, filled_set _ _ (by omega)]
theorem BitsCrcs : sprlaw1_BitsCrcs.Pure := by
  intro l0 l1 l2 at_ x _ hs0 hw0 _ hs1 hw1 _ hs2 hw2 _ hx
  obtain ⟨a, rfl, ha⟩ := toN l0 hw0
  obtain ⟨b, rfl, hb⟩ := toN l1 hw1
  obtain ⟨c, rfl, hc⟩ := toN l2 hw2
  have yes : Ev (fun k => sprlaw1_BitsCrcs.j0 k (ofN a) (ofN b) (ofN c) at_ x true) true := by
    refine Ev.step (fun k => ?_) (Ev.bind first_ev (Ev.now _))
    simp only [sprlaw1_BitsCrcs.j0, if_true]
  refine Ev.rounds (g := fun k => sprlaw1_BitsCrcs.f k (ofN a) (ofN b) (ofN c) at_ x) ?_
  simp only [sprlaw1_BitsCrcs.f]
  refine Ev.bind first_ev ?_
  simp only [if_true]
  by_cases c1 : ((ofN a).length : Int) > 8000
  · simp only [if_pos c1]; exact yes
  simp only [if_neg c1]
  by_cases c2 : ((ofN b).length : Int) = ((ofN a).length : Int)
  case neg => simp only [if_neg c2]; exact yes
  simp only [if_pos c2]
  by_cases c3 : ((ofN c).length : Int) = ((ofN a).length : Int)
  case neg =>
    have : (((ofN c).length : Int) != ((ofN a).length : Int)) = true := by rw [bne_iff_ne]; exact c3
    rw [this]; exact yes
  have : (((ofN c).length : Int) != ((ofN a).length : Int)) = false := by rw [bne_eq_false_iff_eq]; exact c3
  rw [this]
  simp only [ofN_length] at c1 c2 c3
  have hbl : b.length = a.length := by omega
  have hcl : c.length = a.length := by omega
  have h := crcs_l0 a b c ha hb hc hbl hcl (by omega) at_ x hx a.length 0 (by omega) 0 rfl
  have e0 : ofN (filled (Crc.xor3 a b c) 0) = List.replicate (((ofN a).length : Int) : Int).toNat 0 := by
    rw [ofN_length, Int.toNat_natCast, ofN_replicate, filled, xor3_length a b c hbl hcl]
    simp
  rw [e0] at h
  refine Ev.step (fun k => ?_) h
  rw [sprlaw1_BitsCrcs.j0, if_neg (by decide), if_pos (by omega), if_pos (by rw [ofN_length]; omega), copy_eq _ (by rw [ofN_length]; omega), Option.bind_some]

end Go.Proofs.Ytfknnppphijfpaa.Pure
