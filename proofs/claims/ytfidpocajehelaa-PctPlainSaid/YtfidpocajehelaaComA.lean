/- The sets: what In comes to, in both texts. No conditions. -/
import Derived.Lib.Strings
import Derived.Test.YtfidpocajehelaaPAllx4
namespace Go.Proofs.Ytfidpocajehelaa.Pure
open Go.RowKit Go.Proofs.Ytfidpocajehelaa.PAll Go.Proofs.YtfidpocajehelaaW.PrintWords Go.Proofs.YtfidpocajehelaaW.PrintLast Go.Proofs.YtfidpocajehelaaW.PrintMore

theorem wrap_small {n : Int} (h : -9223372036854775808 ≤ n) (h' : n ≤ 9223372036854775807) : wrap64 n = n := by unfold wrap64; omega
theorem rd_at (l : List Int) (i : Nat) (h : i < l.length) : rd l (i : Int) = l[i] := by simp [rd, h]
theorem wf_u8 {x : Int} (h : (Lit.int .u8 x).wf = true) : 0 ≤ x ∧ x ≤ 255 := by
  simp [Lit.wf, IntKind.min, IntKind.max, IntKind.signed, IntKind.bits] at h
  omega
theorem first_ev : Ev (fun k => sprlaw6_first.f k) true := Ev.of sprlaw6_first.mono sprlaw6_first.told
theorem bytes_same (l : List Int) : sprref_Bytes.f l l = some true := by simp [sprref_Bytes.f]
theorem copy_eq (l : List Int) (h : l.length < 140737488355328) : sprref_CopyBytes.f l = some l := by
  simp [sprref_CopyBytes.f, h]
theorem at_byte {P : Int → Prop} (h : ∀ x : Fin 256, P (x.val : Int)) {c : Int} (h0 : 0 ≤ c) (h1 : c ≤ 255) : P c := by
  have := h ⟨c.toNat, by omega⟩
  rwa [show ((c.toNat : Nat) : Int) = c by omega] at this
/-! ### texts and lists of bytes -/
theorem strOfNums_inj (a b : List Int) (ha : ∀ x ∈ a, 0 ≤ x ∧ x ≤ 255) (hb : ∀ x ∈ b, 0 ≤ x ∧ x ≤ 255) (h : (a.map fun n : Int => UInt8.ofNat n.toNat) = (b.map fun n : Int => UInt8.ofNat n.toNat)) : a = b := by
  have key : ∀ l : List Int, (∀ x ∈ l, 0 ≤ x ∧ x ≤ 255) → ((l.map fun n : Int => UInt8.ofNat n.toNat).map fun u : UInt8 => (u.toNat : Int)) = l := by
    intro l hl
    rw [List.map_map]
    refine (List.map_congr_left (g := id) fun x hx => ?_).trans (List.map_id l)
    have := hl x hx
    simp only [Function.comp, id, UInt8.toNat_ofNat']
    omega
  rw [← key a ha, h, key b hb]
theorem bytesOf_bd (s : ByteArray) : ∀ x ∈ bytesOf s, 0 ≤ x ∧ x ≤ 255 := by
  intro x hx
  obtain ⟨u, _, rfl⟩ := List.mem_map.mp hx
  have := u.toNat_lt
  omega
theorem str_bytesOf (s : ByteArray) : ((bytesOf s).map fun n : Int => UInt8.ofNat n.toNat) = s.data.toList := by
  unfold bytesOf
  rw [List.map_map]
  refine (List.map_congr_left (g := id) fun x hx => ?_).trans (List.map_id _)
  simp
theorem bytesOf_str (l : List Int) (hl : ∀ x ∈ l, 0 ≤ x ∧ x ≤ 255) : bytesOf (strOfNums l) = l := by
  refine strOfNums_inj _ _ (bytesOf_bd _) hl ?_
  rw [str_bytesOf, strOfNums_data]
theorem str_same (l : List Int) (s : ByteArray) (hl : ∀ x ∈ l, 0 ≤ x ∧ x ≤ 255) : (strOfNums l).toList = s.toList ↔ l = bytesOf s := by
  rw [Lib.toList_data, Lib.toList_data, strOfNums_data, ← str_bytesOf s]
  constructor
  · exact fun h => strOfNums_inj _ _ hl (bytesOf_bd s) h
  · rintro rfl; rfl
theorem bt_at' (s : ByteArray) (i : Nat) (h : i < (bytesOf s).length) : bt s (i : Int) = (bytesOf s)[i] := by
  rw [← rd_bytesOf, rd_at _ _ h]

/-! ### the sets -/
/-- Is a byte in a set? -/
def inS (s c : Int) : Bool := (pct_In.f 30 s c).getD false
theorem in_tab : ∀ s : Fin 10, ∀ c : Fin 256, (pct_In.f 30 (s.val : Int) (c.val : Int)).isSome = true ∧ sprref1_In.f 30 (s.val : Int) (c.val : Int) = pct_In.f 30 (s.val : Int) (c.val : Int) := by decide +kernel
/-- Every number of a set as one of ten. -/
def few (s : Int) : Int := if s < 1 then 0 else if s > 8 then 9 else s
theorem few_bd (s : Int) : 0 ≤ few s ∧ few s ≤ 9 := by
  unfold few
  repeat' split
  all_goals omega
theorem in_few (k : Nat) (s c : Int) : pct_In.f k s c = pct_In.f k (few s) c := by
  unfold few
  by_cases h1 : s < 1
  · rw [if_pos h1]
    unfold pct_In.f
    rw [if_neg (by omega), if_pos h1, if_neg (by omega), if_pos (by omega)]
    cases k with
    | zero => rfl
    | succ k => rw [pct_In.j0, pct_In.j0, if_pos rfl, if_pos rfl]
  · rw [if_neg h1]
    by_cases h2 : s > 8
    · rw [if_pos h2]
      unfold pct_In.f
      rw [if_neg (by omega), if_neg h1, if_neg (by omega), if_neg (by omega), decide_eq_true h2, decide_eq_true (show (9 : Int) > 8 by omega)]
      cases k with
      | zero => rfl
      | succ k => rw [pct_In.j0, pct_In.j0, if_pos rfl, if_pos rfl]
    · rw [if_neg h2]
theorem rj3_few (k : Nat) (s c : Int) (a b d e : Bool) : sprref1_In.j3 k s c a b d e = sprref1_In.j3 k (few s) c a b d e := by
  unfold few
  by_cases h1 : s < 1
  · rw [if_pos h1]
    cases k with
    | zero => rfl
    | succ k =>
      rw [sprref1_In.j3, sprref1_In.j3]
      simp only [if_neg (show ¬ s = 1 by omega), if_neg (show ¬ s = 2 by omega), if_neg (show ¬ s = 3 by omega), if_neg (show ¬ s = 4 by omega), if_neg (show ¬ s = 5 by omega), if_neg (show ¬ s = 6 by omega), if_neg (show ¬ s = 7 by omega), if_neg (show ¬ s = 8 by omega), if_neg (show ¬ (0 : Int) = 1 by omega), if_neg (show ¬ (0 : Int) = 2 by omega), if_neg (show ¬ (0 : Int) = 3 by omega), if_neg (show ¬ (0 : Int) = 4 by omega), if_neg (show ¬ (0 : Int) = 5 by omega), if_neg (show ¬ (0 : Int) = 6 by omega), if_neg (show ¬ (0 : Int) = 7 by omega), if_neg (show ¬ (0 : Int) = 8 by omega)]
  · rw [if_neg h1]
    by_cases h2 : s > 8
    · rw [if_pos h2]
      cases k with
      | zero => rfl
      | succ k =>
        rw [sprref1_In.j3, sprref1_In.j3]
        simp only [if_neg (show ¬ s = 1 by omega), if_neg (show ¬ s = 2 by omega), if_neg (show ¬ s = 3 by omega), if_neg (show ¬ s = 4 by omega), if_neg (show ¬ s = 5 by omega), if_neg (show ¬ s = 6 by omega), if_neg (show ¬ s = 7 by omega), if_neg (show ¬ s = 8 by omega), if_neg (show ¬ (9 : Int) = 1 by omega), if_neg (show ¬ (9 : Int) = 2 by omega), if_neg (show ¬ (9 : Int) = 3 by omega), if_neg (show ¬ (9 : Int) = 4 by omega), if_neg (show ¬ (9 : Int) = 5 by omega), if_neg (show ¬ (9 : Int) = 6 by omega), if_neg (show ¬ (9 : Int) = 7 by omega), if_neg (show ¬ (9 : Int) = 8 by omega)]
    · rw [if_neg h2]
theorem rj2_few (k : Nat) (s c : Int) (a b d : Bool) : sprref1_In.j2 k s c a b d = sprref1_In.j2 k (few s) c a b d := by
  cases k with
  | zero => rfl
  | succ k => rw [sprref1_In.j2, sprref1_In.j2]; simp only [rj3_few k s]
theorem rj1_few (k : Nat) (s c : Int) (a b : Bool) : sprref1_In.j1 k s c a b = sprref1_In.j1 k (few s) c a b := by
  cases k with
  | zero => rfl
  | succ k => rw [sprref1_In.j1, sprref1_In.j1]; simp only [rj2_few k s]
theorem rj0_few (k : Nat) (s c : Int) (a : Bool) : sprref1_In.j0 k s c a = sprref1_In.j0 k (few s) c a := by
  cases k with
  | zero => rfl
  | succ k => rw [sprref1_In.j0, sprref1_In.j0]; simp only [rj1_few k s]
theorem rin_few (k : Nat) (s c : Int) : sprref1_In.f k s c = sprref1_In.f k (few s) c := by
  unfold sprref1_In.f; simp only [rj0_few k s]
theorem in_both (s c : Int) (h0 : 0 ≤ c) (h1 : c ≤ 255) : pct_In.f 30 s c = some (inS s c) ∧ sprref1_In.f 30 s c = some (inS s c) := by
  have hb := few_bd s
  have h := in_tab ⟨(few s).toNat, by omega⟩ ⟨c.toNat, by omega⟩
  simp only [show (((few s).toNat : Nat) : Int) = few s by omega, show ((c.toNat : Nat) : Int) = c by omega] at h
  rw [rin_few, h.2, ← in_few]
  unfold inS
  have h2 := h.1
  rw [← in_few] at h2
  obtain ⟨r, hr⟩ := Option.isSome_iff_exists.mp h2
  rw [hr]
  exact ⟨rfl, rfl⟩
theorem in_ev (s c : Int) (h0 : 0 ≤ c) (h1 : c ≤ 255) : Ev (fun k => pct_In.f k s c) (inS s c) := Ev.of (fun k => pct_In.mono s c k) (in_both s c h0 h1).1
theorem rin_ev (s c : Int) (h0 : 0 ≤ c) (h1 : c ≤ 255) : Ev (fun k => sprref1_In.f k s c) (inS s c) := Ev.of (fun k => sprref1_In.mono s c k) (in_both s c h0 h1).2
theorem inS_few (s c : Int) : inS s c = inS (few s) c := by unfold inS; rw [in_few]

end Go.Proofs.Ytfidpocajehelaa.Pure
