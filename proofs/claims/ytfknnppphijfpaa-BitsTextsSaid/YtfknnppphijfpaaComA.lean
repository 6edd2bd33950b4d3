/- Plain lemmas on the check sum, the other sum and turned numbers, and what the printed functions come to. No conditions of their own. -/
import Derived.Test.YtfknnppphijfpaaPAllx2
import Derived.Laws.BitsAllLaws
/-! Plain lemmas on the check sum, over natural numbers: no program. -/
namespace Crc
def poly : Nat := 3988292384
def step (n : Nat) : Nat := if n % 2 = 1 then n / 2 ^^^ poly else n / 2
def steps : Nat → Nat → Nat
  | 0, n => n
  | k + 1, n => steps k (step n)
def byte (s x : Nat) : Nat := steps 8 (s ^^^ x)
def run (s : Nat) : List Nat → Nat
  | [] => s
  | x :: l => run (byte s x) l

theorem run_cons (s x : Nat) (l : List Nat) : run s (x :: l) = run (byte s x) l := rfl
theorem step_xor (a b : Nat) : step (a ^^^ b) = step a ^^^ step b := by
  unfold step
  simp only [Nat.xor_mod_two_eq_one, Nat.xor_div_two]
  by_cases ha : a % 2 = 1 <;> by_cases hb : b % 2 = 1 <;> simp [ha, hb]
  · rw [Nat.xor_assoc, Nat.xor_comm poly, Nat.xor_assoc, Nat.xor_self, Nat.xor_zero]
  · rw [Nat.xor_assoc, Nat.xor_comm (b / 2), Nat.xor_assoc]
  · rw [Nat.xor_assoc]
theorem steps_xor (k : Nat) : ∀ a b, steps k (a ^^^ b) = steps k a ^^^ steps k b := by
  induction k with
  | zero => intro a b; rfl
  | succ k ih => intro a b; simp only [steps]; rw [step_xor, ih]
theorem step_lt {n : Nat} (h : n < 2 ^ 32) : step n < 2 ^ 32 := by
  unfold step
  split
  · exact Nat.xor_lt_two_pow (by omega) (by decide)
  · omega
theorem steps_lt (k : Nat) : ∀ {n : Nat}, n < 2 ^ 32 → steps k n < 2 ^ 32 := by
  induction k with
  | zero => intro n h; exact h
  | succ k ih => intro n h; exact ih (step_lt h)
theorem byte_lt {s x : Nat} (hs : s < 2 ^ 32) (hx : x < 256) : byte s x < 2 ^ 32 :=
  steps_lt 8 (Nat.xor_lt_two_pow hs (by omega))
theorem byte_eq (s x : Nat) : byte s x = steps 8 (s ^^^ x) := rfl
theorem byte_xor3 (s t u x y z : Nat) : byte (s ^^^ t ^^^ u) (x ^^^ y ^^^ z) = byte s x ^^^ byte t y ^^^ byte u z := by
  rw [byte_eq, byte_eq, byte_eq, byte_eq, ← steps_xor, ← steps_xor]
  have e : s ^^^ t ^^^ u ^^^ (x ^^^ y ^^^ z) = s ^^^ x ^^^ (t ^^^ y) ^^^ (u ^^^ z) := by ac_rfl
  rw [e]
attribute [irreducible] byte
theorem run_lt (l : List Nat) : ∀ {s : Nat}, s < 2 ^ 32 → (∀ x ∈ l, x < 256) → run s l < 2 ^ 32 := by
  induction l with
  | nil => intro s hs _; exact hs
  | cons x l ih => intro s hs hx; exact ih (byte_lt hs (hx x (by simp))) (fun y hy => hx y (by simp [hy]))
theorem step_inj {a b : Nat} (ha : a < 2 ^ 32) (hb : b < 2 ^ 32) (h : step a = step b) : a = b := by
  have key : ∀ u v : Nat, u < 2 ^ 32 → v < 2 ^ 32 → u / 2 ^^^ poly = v / 2 → False := by
    intro u v hu hv e
    have e2 : poly = u / 2 ^^^ v / 2 := by rw [← e, ← Nat.xor_assoc, Nat.xor_self, Nat.zero_xor]
    have : u / 2 ^^^ v / 2 < 2 ^ 31 := Nat.xor_lt_two_pow (by omega) (by omega)
    rw [← e2] at this
    exact absurd this (by decide)
  unfold step at h
  by_cases h1 : a % 2 = 1 <;> by_cases h2 : b % 2 = 1
  · rw [if_pos h1, if_pos h2] at h
    have : a / 2 = b / 2 := by
      have := congrArg (· ^^^ poly) h
      simpa [Nat.xor_assoc] using this
    omega
  · rw [if_pos h1, if_neg h2] at h
    exact (key a b ha hb h).elim
  · rw [if_neg h1, if_pos h2] at h
    exact (key b a hb ha h.symm).elim
  · rw [if_neg h1, if_neg h2] at h
    omega
theorem steps_inj (k : Nat) : ∀ {a b : Nat}, a < 2 ^ 32 → b < 2 ^ 32 → steps k a = steps k b → a = b := by
  induction k with
  | zero => intro a b _ _ h; exact h
  | succ k ih => intro a b ha hb h; exact step_inj ha hb (ih (step_lt ha) (step_lt hb) h)
theorem xor_inj {a b x : Nat} (h : a ^^^ x = b ^^^ x) : a = b := by
  have := congrArg (· ^^^ x) h
  simpa [Nat.xor_assoc] using this
theorem byte_inj {a b x : Nat} (ha : a < 2 ^ 32) (hb : b < 2 ^ 32) (hx : x < 256) (h : byte a x = byte b x) : a = b := by
  rw [byte_eq, byte_eq] at h
  exact xor_inj (steps_inj 8 (Nat.xor_lt_two_pow ha (by omega)) (Nat.xor_lt_two_pow hb (by omega)) h)
theorem run_inj (l : List Nat) : ∀ {a b : Nat}, a < 2 ^ 32 → b < 2 ^ 32 → (∀ x ∈ l, x < 256) → run a l = run b l → a = b := by
  induction l with
  | nil => intro a b _ _ _ h; exact h
  | cons x l ih =>
    intro a b ha hb hx h
    have hx0 := hx x (by simp)
    exact byte_inj ha hb hx0 (ih (byte_lt ha hx0) (byte_lt hb hx0) (fun y hy => hx y (by simp [hy])) h)
/-- A byte turned has another sum. -/
theorem run_set (l : List Nat) : ∀ (i s x : Nat), s < 2 ^ 32 → (∀ y ∈ l, y < 256) → (h : i < l.length) → x < 256 → x ≠ l[i] → run s (l.set i x) ≠ run s l := by
  induction l with
  | nil => intro i s x _ _ h; simp at h
  | cons y l ih =>
    intro i s x hs hl h hx hne e
    have hy := hl y (by simp)
    cases i with
    | zero =>
      rw [List.set_cons_zero, run_cons, run_cons] at e
      simp at hne
      have e2 := run_inj l (byte_lt hs hx) (byte_lt hs hy) (fun z hz => hl z (by simp [hz])) e
      rw [byte_eq, byte_eq] at e2
      have e3 := steps_inj 8 (Nat.xor_lt_two_pow hs (by omega)) (Nat.xor_lt_two_pow hs (by omega)) e2
      rw [Nat.xor_comm s x, Nat.xor_comm s y] at e3
      exact hne (xor_inj e3)
    | succ i =>
      rw [List.set_cons_succ, run_cons, run_cons] at e
      simp at hne h
      exact ih i _ x (byte_lt hs hy) (fun z hz => hl z (by simp [hz])) h hx hne e
def xor3 : List Nat → List Nat → List Nat → List Nat
  | x :: a, y :: b, z :: c => (x ^^^ y ^^^ z) :: xor3 a b c
  | _, _, _ => []
/-- Three texts together. -/
theorem run_xor3 : ∀ (a b c : List Nat) (s t u : Nat), b.length = a.length → c.length = a.length → run (s ^^^ t ^^^ u) (xor3 a b c) = run s a ^^^ run t b ^^^ run u c
  | [], [], [], s, t, u, _, _ => rfl
  | [], _ :: _, _, _, _, _, h, _ => by simp at h
  | [], [], _ :: _, _, _, _, _, h => by simp at h
  | _ :: _, [], _, _, _, _, h, _ => by simp at h
  | _ :: _, _ :: _, [], _, _, _, _, h => by simp at h
  | x :: a, y :: b, z :: c, s, t, u, h, k => by
    rw [show xor3 (x :: a) (y :: b) (z :: c) = (x ^^^ y ^^^ z) :: xor3 a b c from rfl, run_cons, run_cons, run_cons, run_cons, byte_xor3]
    exact run_xor3 a b c _ _ _ (by simpa using h) (by simpa using k)
end Crc
namespace Go.Proofs.Ytfknnppphijfpaa.Pure
open Go.RowKit Go.Proofs.Ytfknnppphijfpaa.PAll Go.Proofs.YtfknnppphijfpaaW.PrintWords Go.Proofs.YtfknnppphijfpaaW.PrintLast Go.Proofs.YtfknnppphijfpaaW.PrintMore
theorem first_ev : Ev (fun k => sprlaw1_first.f k) true := Ev.of sprlaw1_first.mono sprlaw1_first.told
theorem wrap_small {n : Int} (h : -9223372036854775808 ≤ n) (h' : n ≤ 9223372036854775807) : wrap64 n = n := by unfold wrap64; omega
/-! ### lists of bytes as natural numbers -/
def ofN (ns : List Nat) : List Int := ns.map (fun n : Nat => (n : Int))
theorem ofN_length (ns : List Nat) : (ofN ns).length = ns.length := by simp [ofN]
theorem rd_ofN (ns : List Nat) (i : Nat) (h : i < ns.length) : rd (ofN ns) (i : Int) = ((ns[i] : Nat) : Int) := by
  simp [rd, ofN, h]
theorem wf_u8 {x : Int} (h : (Lit.int .u8 x).wf = true) : 0 ≤ x ∧ x ≤ 255 := by
  simp [Lit.wf, IntKind.min, IntKind.max, IntKind.signed, IntKind.bits] at h
  omega
theorem wf_u32 {x : Int} (h : (Lit.int .u32 x).wf = true) : 0 ≤ x ∧ x ≤ 4294967295 := by
  simp [Lit.wf, IntKind.min, IntKind.max, IntKind.signed, IntKind.bits] at h
  omega
theorem wf_i64 {x : Int} (h : (Lit.int .i64 x).wf = true) : -9223372036854775808 ≤ x ∧ x ≤ 9223372036854775807 := by
  simp [Lit.wf, IntKind.min, IntKind.max, IntKind.signed, IntKind.bits] at h
  omega
theorem toN (l : List Int) (h : ∀ x ∈ l, (Lit.int .u8 x).wf = true) : ∃ ns : List Nat, l = ofN ns ∧ ∀ n ∈ ns, n < 256 := by
  refine ⟨l.map Int.toNat, ?_, ?_⟩
  · unfold ofN
    rw [List.map_map]
    refine (List.map_congr_left (g := id) fun x hx => ?_).trans (List.map_id l) |>.symm
    have := wf_u8 (h x hx)
    simp only [Function.comp, id]
    omega
  · intro n hn
    obtain ⟨x, hx, rfl⟩ := List.mem_map.mp hn
    have := wf_u8 (h x hx)
    omega
theorem xor32 (a b : Nat) (ha : a < 4294967296) (hb : b < 4294967296) : Go.bits .xor .u32 (a : Int) (b : Int) = ((a ^^^ b : Nat) : Int) := u32_xor_nat a b ha hb
theorem and1 (a : Nat) (ha : a < 4294967296) : Go.bits .and .u32 (a : Int) 1 = ((a % 2 : Nat) : Int) := by
  have := u32_and_nat a 1 ha (by decide)
  rw [nat_mask1] at this
  exact this
/-! ### the check sum -/
theorem crc_l1 (ns : List Nat) (i : Nat) (r : Int) (j : Nat) : ∀ (d s : Nat), s < 4294967296 → j + d = 8 → ∀ (i' : Int),
    Ev (fun k => bits_Crc.l0 k ((Crc.steps d s : Nat) : Int) (ofN ns) (ns.length : Int) (wrap64 (i + 1))) r → i' = (j : Int) →
    Ev (fun k => bits_Crc.l1 k (s : Int) (ofN ns) (ns.length : Int) (i : Int) i') r := by
  intro d
  induction d generalizing j with
  | zero =>
    intro s hs hj i' h e
    subst e
    refine Ev.step (fun k => ?_) h
    rw [bits_Crc.l1, if_neg (by omega)]
    rfl
  | succ d ih =>
    intro s hs hj i' h e
    subst e
    have hst := Crc.step_lt hs
    refine Ev.step (fun k => ?_) (ih (j + 1) (Crc.step s) hst (by omega) _ h rfl)
    rw [bits_Crc.l1, if_pos (by omega), and1 s hs, wrap_small (by omega) (by omega)]
    have e2 : (s : Int) / 2 = ((s / 2 : Nat) : Int) := by omega
    have e3 : (j : Int) + 1 = ((j + 1 : Nat) : Int) := by omega
    unfold Crc.step
    by_cases hp : s % 2 = 1
    · rw [if_pos (by omega), if_pos hp, e2, e3]
      rw [show (3988292384 : Int) = ((Crc.poly : Nat) : Int) from rfl, xor32 _ _ (by omega) (by decide)]
    · rw [if_neg (by omega), if_neg hp, e2, e3]
theorem crc_l0 (ns : List Nat) (hn : ∀ n ∈ ns, n < 256) (hl : ns.length ≤ 9223372036854775800) : ∀ (d i s : Nat), s < 4294967296 → i + d = ns.length → ∀ i' : Int, i' = (i : Int) →
    Ev (fun k => bits_Crc.l0 k (s : Int) (ofN ns) (ns.length : Int) i') ((4294967295 ^^^ Crc.run s (ns.drop i) : Nat) : Int) := by
  intro d
  induction d with
  | zero =>
    intro i s hs hi i' e
    subst e
    refine Ev.step (fun k => ?_) (Ev.now _)
    rw [bits_Crc.l0, if_neg (by omega), show ns.drop i = [] from List.drop_eq_nil_of_le (by omega)]
    rw [show (4294967295 : Int) = ((4294967295 : Nat) : Int) from rfl, xor32 _ _ (by decide) hs]
    rfl
  | succ d ih =>
    intro i s hs hi i' e
    subst e
    have hlt : i < ns.length := by omega
    have hx := hn ns[i] (List.getElem_mem hlt)
    have hx' := Nat.xor_lt_two_pow (n := 32) (x := s) (y := ns[i]) (by omega) (by omega)
    rw [List.drop_eq_getElem_cons hlt, Crc.run_cons, Crc.byte_eq]
    have h := ih (i + 1) (Crc.steps 8 (s ^^^ ns[i])) (Crc.steps_lt 8 hx') (by omega) (wrap64 (i + 1)) (by rw [wrap_small (by omega) (by omega)]; omega)
    refine Ev.step (fun k => ?_) (crc_l1 ns i _ 0 8 (s ^^^ ns[i]) hx' rfl 0 h rfl)
    rw [bits_Crc.l0, if_pos (by omega), if_pos (by omega), if_pos (by rw [ofN_length]; omega), rd_ofN ns i hlt]
    rw [show ((ns[i] : Nat) : Int) % 4294967296 = ((ns[i] : Nat) : Int) by omega, xor32 _ _ hs (by omega)]
/-- The check sum of bytes. -/
def crc (ns : List Nat) : Nat := 4294967295 ^^^ Crc.run 4294967295 ns
theorem crc_ev (ns : List Nat) (hn : ∀ n ∈ ns, n < 256) (hl : ns.length ≤ 9223372036854775800) : Ev (fun k => bits_Crc.f k (ofN ns)) ((crc ns : Nat) : Int) := by
  have := crc_l0 ns hn hl ns.length 0 4294967295 (by decide) (by omega) 0 rfl
  rw [List.drop_zero] at this
  refine Ev.congr (fun k => ?_) this
  rw [bits_Crc.f, ofN_length]
  rfl
theorem rcrc_l1 (ns : List Nat) (i : Nat) (r : Int) (j : Nat) : ∀ (d s : Nat), s < 4294967296 → j + d = 8 → ∀ (i' : Int),
    Ev (fun k => sprref1_Crc.l0 k (ofN ns) ((Crc.steps d s : Nat) : Int) (wrap64 (i + 1))) r → i' = (j : Int) →
    Ev (fun k => sprref1_Crc.l1 k (ofN ns) (s : Int) (i : Int) i') r := by
  intro d
  induction d generalizing j with
  | zero =>
    intro s hs hj i' h e
    subst e
    refine Ev.step (fun k => ?_) h
    rw [sprref1_Crc.l1, if_neg (by omega)]
    rfl
  | succ d ih =>
    intro s hs hj i' h e
    subst e
    have hst := Crc.step_lt hs
    refine Ev.step (fun k => ?_) (ih (j + 1) (Crc.step s) hst (by omega) _ h rfl)
    rw [sprref1_Crc.l1, if_pos (by omega), and1 s hs, wrap_small (by omega) (by omega)]
    have e2 : (s : Int) / 2 = ((s / 2 : Nat) : Int) := by omega
    have e3 : (j : Int) + 1 = ((j + 1 : Nat) : Int) := by omega
    unfold Crc.step
    by_cases hp : s % 2 = 1
    · rw [if_pos (by omega), if_pos hp, e2, e3]
      rw [show (3988292384 : Int) = ((Crc.poly : Nat) : Int) from rfl, xor32 _ _ (by omega) (by decide)]
    · rw [if_neg (by omega), if_neg hp, e2, e3]
theorem rcrc_l0 (ns : List Nat) (hn : ∀ n ∈ ns, n < 256) (hl : ns.length ≤ 9223372036854775800) : ∀ (d i s : Nat), s < 4294967296 → i + d = ns.length → ∀ i' : Int, i' = (i : Int) →
    Ev (fun k => sprref1_Crc.l0 k (ofN ns) (s : Int) i') ((4294967295 ^^^ Crc.run s (ns.drop i) : Nat) : Int) := by
  intro d
  induction d with
  | zero =>
    intro i s hs hi i' e
    subst e
    refine Ev.step (fun k => ?_) (Ev.now _)
    rw [sprref1_Crc.l0, if_neg (by rw [ofN_length]; omega), show ns.drop i = [] from List.drop_eq_nil_of_le (by omega)]
    rw [show (4294967295 : Int) = ((4294967295 : Nat) : Int) from rfl, xor32 _ _ (by decide) hs]
    rfl
  | succ d ih =>
    intro i s hs hi i' e
    subst e
    have hlt : i < ns.length := by omega
    have hx := hn ns[i] (List.getElem_mem hlt)
    have hx' := Nat.xor_lt_two_pow (n := 32) (x := s) (y := ns[i]) (by omega) (by omega)
    rw [List.drop_eq_getElem_cons hlt, Crc.run_cons, Crc.byte_eq]
    have h := ih (i + 1) (Crc.steps 8 (s ^^^ ns[i])) (Crc.steps_lt 8 hx') (by omega) (wrap64 (i + 1)) (by rw [wrap_small (by omega) (by omega)]; omega)
    refine Ev.step (fun k => ?_) (rcrc_l1 ns i _ 0 8 (s ^^^ ns[i]) hx' rfl 0 h rfl)
    rw [sprref1_Crc.l0, if_pos (by rw [ofN_length]; omega), if_pos (by omega), rd_ofN ns i hlt]
    rw [show ((ns[i] : Nat) : Int) % 4294967296 = ((ns[i] : Nat) : Int) by omega, xor32 _ _ hs (by omega)]
theorem rcrc_ev (ns : List Nat) (hn : ∀ n ∈ ns, n < 256) (hl : ns.length ≤ 9223372036854775800) : Ev (fun k => sprref1_Crc.f k (ofN ns)) ((crc ns : Nat) : Int) := by
  have := rcrc_l0 ns hn hl ns.length 0 4294967295 (by decide) (by omega) 0 rfl
  rw [List.drop_zero] at this
  refine Ev.congr (fun k => ?_) this
  rw [sprref1_Crc.f]
  rfl
/-! ### the sum of 64 bits: the same number in both texts -/
def fnv (s : Int) : List Int → Int
  | [] => s
  | x :: l => fnv (IntKind.u64.wrap ((Go.bits .xor .u64 s (IntKind.u64.wrap x)) * 1099511628211)) l
theorem rd_at (l : List Int) (i : Nat) (h : i < l.length) : rd l (i : Int) = l[i] := by simp [rd, h]
theorem fnv_l0 (l : List Int) (hl : l.length ≤ 9223372036854775800) : ∀ (d i : Nat) (s : Int), i + d = l.length → ∀ i' : Int, i' = (i : Int) →
    Ev (fun k => bits_Fnv.l0 k s l (l.length : Int) i') (fnv s (l.drop i)) := by
  intro d
  induction d with
  | zero =>
    intro i s hi i' e
    subst e
    refine Ev.step (fun k => ?_) (Ev.now _)
    rw [bits_Fnv.l0, if_neg (by omega), show l.drop i = [] from List.drop_eq_nil_of_le (by omega)]
    rfl
  | succ d ih =>
    intro i s hi i' e
    subst e
    have hlt : i < l.length := by omega
    rw [List.drop_eq_getElem_cons hlt, fnv]
    refine Ev.step (fun k => ?_) (ih (i + 1) _ (by omega) (wrap64 (i + 1)) (by rw [wrap_small (by omega) (by omega)]; omega))
    rw [bits_Fnv.l0, if_pos (by omega), if_pos (by omega), if_pos (by omega), rd_at l i hlt]
theorem rfnv_l0 (l : List Int) (hl : l.length ≤ 9223372036854775800) : ∀ (d i : Nat) (s : Int), i + d = l.length → ∀ i' : Int, i' = (i : Int) →
    Ev (fun k => sprref1_Fnv.l0 k l s i') (fnv s (l.drop i)) := by
  intro d
  induction d with
  | zero =>
    intro i s hi i' e
    subst e
    refine Ev.step (fun k => ?_) (Ev.now _)
    rw [sprref1_Fnv.l0, if_neg (by omega), show l.drop i = [] from List.drop_eq_nil_of_le (by omega)]
    rfl
  | succ d ih =>
    intro i s hi i' e
    subst e
    have hlt : i < l.length := by omega
    rw [List.drop_eq_getElem_cons hlt, fnv]
    refine Ev.step (fun k => ?_) (ih (i + 1) _ (by omega) (wrap64 (i + 1)) (by rw [wrap_small (by omega) (by omega)]; omega))
    rw [sprref1_Fnv.l0, if_pos (by omega), if_pos (by omega), rd_at l i hlt]
theorem fnv_ev (l : List Int) (hl : l.length ≤ 9223372036854775800) : Ev (fun k => bits_Fnv.f k l) (fnv 14695981039346656037 l) := by
  have := fnv_l0 l hl l.length 0 14695981039346656037 (by omega) 0 rfl
  rwa [List.drop_zero] at this
theorem rfnv_ev (l : List Int) (hl : l.length ≤ 9223372036854775800) : Ev (fun k => sprref1_Fnv.f k l) (fnv 14695981039346656037 l) := by
  have := rfnv_l0 l hl l.length 0 14695981039346656037 (by omega) 0 rfl
  rwa [List.drop_zero] at this
/-! ### turns -/
def rot (x k : Nat) : Nat := x * 2 ^ k % 4294967296 + x / 2 ^ (32 - k)
theorem rot_parts (x k : Nat) (hx : x < 4294967296) (hk : k ≤ 32) :
    x * 2 ^ k = 4294967295 * (x / 2 ^ (32 - k)) + rot x k ∧ rot x k = 2 ^ k * (x % 2 ^ (32 - k)) + x / 2 ^ (32 - k) ∧ x / 2 ^ (32 - k) < 2 ^ k ∧ x % 2 ^ (32 - k) < 2 ^ (32 - k) ∧ 2 ^ k * 2 ^ (32 - k) = 4294967296 := by
  have hpq : 2 ^ k * 2 ^ (32 - k) = 4294967296 := by
    rw [← Nat.pow_add, show k + (32 - k) = 32 by omega]
  have hq : 0 < 2 ^ (32 - k) := Nat.two_pow_pos _
  have hp : 0 < 2 ^ k := Nat.two_pow_pos _
  have hr := Nat.mod_lt x hq
  have hd := Nat.div_add_mod x (2 ^ (32 - k))
  unfold rot
  generalize 2 ^ k = p at *
  generalize 2 ^ (32 - k) = q at *
  generalize hu : x / q = u at *
  generalize hv : x % q = v at *
  have hup : u < p := by
    rw [← hu]
    exact Nat.div_lt_of_lt_mul (by rw [Nat.mul_comm, hpq]; exact hx)
  have e1 : x * p = 4294967296 * u + p * v := by
    rw [← hd, ← hpq, Nat.add_mul]
    congr 1
    · ac_rfl
    · ac_rfl
  have e2 : p * v < 4294967296 := by
    rw [← hpq]
    exact Nat.mul_lt_mul_of_pos_left hr hp
  have e3 : x * p % 4294967296 = p * v := by
    rw [e1, Nat.mul_add_mod, Nat.mod_eq_of_lt e2]
  rw [e3]
  refine ⟨by omega, rfl, hup, hr, hpq⟩
theorem rot_le (x k : Nat) (hx : x < 4294967296) (hk : k ≤ 32) : rot x k ≤ 4294967295 := by
  obtain ⟨_, h2, h3, h4, h5⟩ := rot_parts x k hx hk
  rw [h2]
  generalize 2 ^ k = p at *
  generalize 2 ^ (32 - k) = q at *
  generalize x / q = u at *
  generalize x % q = v at *
  have : p * v + p ≤ p * q := by
    rw [← Nat.mul_succ]
    exact Nat.mul_le_mul_left _ h4
  omega
theorem rot_mod (x k : Nat) (hx : x < 4294967296) (hk : k ≤ 32) : rot x k % 4294967295 = x * 2 ^ k % 4294967295 := by
  rw [(rot_parts x k hx hk).1, Nat.mul_add_mod]
theorem rot_zero (x k : Nat) (hx : x < 4294967296) (hk : k ≤ 32) : rot x k = 0 ↔ x = 0 := by
  constructor
  · intro h
    obtain ⟨h1, h2, h3, h4, h5⟩ := rot_parts x k hx hk
    rw [h] at h2
    have hp : 0 < 2 ^ k := Nat.two_pow_pos _
    have hd := Nat.div_add_mod x (2 ^ (32 - k))
    generalize 2 ^ k = p at *
    generalize 2 ^ (32 - k) = q at *
    have hu : x / q = 0 := by omega
    have hv : p * (x % q) = 0 := by omega
    have hv' : x % q = 0 := by
      rcases Nat.mul_eq_zero.mp hv with h | h
      · omega
      · exact h
    rw [hu, hv'] at hd
    omega
  · rintro rfl
    simp [rot]
theorem pow32 (a : Nat) : 2 ^ (32 + a) % 4294967295 = 2 ^ a % 4294967295 := by
  rw [Nat.pow_add, Nat.mul_mod]
  simp
theorem rot_rot (x i j : Nat) (hx : x < 4294967296) (hi : i < 32) (hj : j < 32) : rot (rot x i) j = rot x ((i + j) % 32) := by
  have l1 := rot_le x i hx (by omega)
  have l2 := rot_le (rot x i) j (by omega) (by omega)
  have l3 := rot_le x ((i + j) % 32) hx (by omega)
  have z1 := rot_zero x i hx (by omega)
  have z2 := rot_zero (rot x i) j (by omega) (by omega)
  have z3 := rot_zero x ((i + j) % 32) hx (by omega)
  have m1 : rot (rot x i) j % 4294967295 = rot x ((i + j) % 32) % 4294967295 := by
    rw [rot_mod _ _ (by omega) (by omega), rot_mod _ _ hx (by omega), Nat.mul_mod, rot_mod x i hx (by omega), ← Nat.mul_mod, Nat.mul_assoc, ← Nat.pow_add]
    rw [Nat.mul_mod x, Nat.mul_mod x (2 ^ ((i + j) % 32))]
    congr 2
    by_cases h : i + j < 32
    · rw [Nat.mod_eq_of_lt h]
    · have : i + j = 32 + (i + j) % 32 := by omega
      rw [this, pow32]
      congr 2
      omega
  generalize rot (rot x i) j = u at *
  generalize rot x ((i + j) % 32) = v at *
  omega
theorem rot_none (x : Nat) (hx : x < 4294967296) : rot x 0 = x := by
  unfold rot
  rw [Nat.pow_zero, Nat.mul_one, Nat.mod_eq_of_lt hx, Nat.div_eq_of_lt (by simpa using hx), Nat.add_zero]
theorem or_rot (x k : Nat) (hx : x < 4294967296) (hk : k ≤ 32) : (x * 2 ^ k % 4294967296) ||| (x / 2 ^ (32 - k)) = rot x k := by
  obtain ⟨h1, h2, h3, h4, h5⟩ := rot_parts x k hx hk
  refine nat_join k _ _ ?_ h3
  have : x * 2 ^ k % 4294967296 = 2 ^ k * (x % 2 ^ (32 - k)) := by unfold rot at h2; omega
  rw [this]
  simp
/-- The turn by a count below 32. -/
theorem turn_core (x : Int) (j : Int) (hx : 0 ≤ x) (hx' : x < 4294967296) (hj : 0 ≤ j) (hj' : j < 32) :
    Go.bits .or .u32 (shl .u32 x j) (shr .u32 x (IntKind.u64.wrap (32 - j))) = ((rot x.toNat j.toNat : Nat) : Int) := by
  obtain ⟨n, rfl⟩ := Int.eq_ofNat_of_zero_le hx
  obtain ⟨k, rfl⟩ := Int.eq_ofNat_of_zero_le hj
  have hk : k < 32 := by omega
  have hn : n < 4294967296 := by omega
  rw [IntKind.wrap_u64, show ((32 : Int) - (k : Int)) % 18446744073709551616 = ((32 - k : Nat) : Int) by omega]
  unfold shl shr
  rw [IntKind.wrap_u32', show min ((k : Int)).toNat IntKind.u32.bits = k from by show min _ 32 = k; omega, show min (((32 - k : Nat) : Int)).toNat IntKind.u32.bits = 32 - k from by show min _ 32 = _; omega]
  have e1 : (n : Int) * 2 ^ k % 4294967296 = ((n * 2 ^ k % 4294967296 : Nat) : Int) := by simp
  have e2 : (n : Int) / 2 ^ (32 - k) = ((n / 2 ^ (32 - k) : Nat) : Int) := by simp
  rw [e1, e2, u32_or_nat _ _ (Nat.mod_lt _ (by decide)) (Nat.lt_of_le_of_lt (Nat.div_le_self _ _) hn), or_rot n k hn (by omega)]
  simp
theorem turn (x n : Int) (hx : 0 ≤ x) (hx' : x ≤ 4294967295) : bits_Turn.f x n = some ((rot x.toNat (n % 32).toNat : Nat) : Int) := by
  have e : Go.bits .and .u64 (IntKind.u64.wrap n) 31 = n % 32 := by
    rw [IntKind.wrap_u64, u64_and _ _ (by omega) (by omega) (by decide) (by decide), show (31 : Int).toNat = 31 from rfl, nat_mask5]
    omega
  unfold bits_Turn.f
  rw [e, if_pos (by omega), if_pos (by rw [IntKind.wrap_u64]; omega), turn_core x (n % 32) hx (by omega) (by omega) (by omega)]
theorem tmod32 (n : Int) : Int.tmod n 32 = if 0 ≤ n then n % 32 else -((-n) % 32) := by
  split
  · rw [Int.tmod_eq_emod_of_nonneg (by assumption)]
  · rw [← Int.tmod_eq_emod_of_nonneg (by omega), ← Int.neg_tmod, Int.neg_neg]
theorem rturn (x n : Int) (hx : 0 ≤ x) (hx' : x ≤ 4294967295) : sprref1_Turn.f x n = some ((rot x.toNat (n % 32).toNat : Nat) : Int) := by
  have e : IntKind.u64.wrap (Int.tmod (wrap64 ((Int.tmod n 32) + 32)) 32) = n % 32 := by
    rw [tmod32 n, IntKind.wrap_u64]
    split
    · rw [wrap_small (by omega) (by omega), tmod32, if_pos (by omega)]; omega
    · rw [wrap_small (by omega) (by omega), tmod32, if_pos (by omega)]; omega
  unfold sprref1_Turn.f
  rw [e, if_pos (by omega), if_pos (by rw [IntKind.wrap_u64]; omega), turn_core x (n % 32) hx (by omega) (by omega) (by omega)]
theorem rot_lt (x n : Int) (hx : 0 ≤ x) (hx' : x ≤ 4294967295) : 0 ≤ ((rot x.toNat (n % 32).toNat : Nat) : Int) ∧ ((rot x.toNat (n % 32).toNat : Nat) : Int) ≤ 4294967295 := by
  have := rot_le x.toNat (n % 32).toNat (by omega) (by omega)
  omega
theorem turn_turn (x n m : Int) (hx : 0 ≤ x) (hx' : x ≤ 4294967295) : rot ((rot x.toNat (n % 32).toNat : Nat) : Int).toNat (m % 32).toNat = rot x.toNat ((n + m) % 32).toNat := by
  rw [Int.toNat_natCast, rot_rot _ _ _ (by omega) (by omega) (by omega)]
  congr 1
  omega

end Go.Proofs.Ytfknnppphijfpaa.Pure
