/- For every input the law returns true. No conditions. -/
import Derived.Test.YtfidpocajehelaaPAllx7
import Derived.Test.YtfidpocajehelaaComA
namespace Go.Proofs.Ytfidpocajehelaa.Pure
open Go.RowKit Go.Proofs.Ytfidpocajehelaa.PAll Go.Proofs.YtfidpocajehelaaW.PrintWords Go.Proofs.YtfidpocajehelaaW.PrintLast Go.Proofs.YtfidpocajehelaaW.PrintMore

theorem l0_few (k : Nat) (s : Int) : (∀ (a b : List Int) (c d : Int), pct_Encode.l0 k s a b c d = pct_Encode.l0 k (few s) a b c d) ∧ (∀ (a : List Int) (x : Int) (b : List Int) (c d : Int) (e : Bool), pct_Encode.j1 k s a x b c d e = pct_Encode.j1 k (few s) a x b c d e) := by
  have h8 : s = 8 ↔ few s = 8 := by
    unfold few
    repeat' split
    all_goals omega
  induction k with
  | zero => exact ⟨fun _ _ _ _ => rfl, fun _ _ _ _ _ _ => rfl⟩
  | succ k ih =>
    refine ⟨fun a b c d => ?_, fun a x b c d e => ?_⟩
    · rw [pct_Encode.l0, pct_Encode.l0]
      simp only [ih.2, h8]
    · rw [pct_Encode.j1, pct_Encode.j1]
      simp only [ih.1, in_few k s x]
theorem encode_few (k : Nat) (s : Int) (l : List Int) : pct_Encode.f k s l = pct_Encode.f k (few s) l := (l0_few k s).1 _ _ _ _
theorem few8 (s : Int) : s = 8 ↔ few s = 8 := by
  unfold few
  repeat' split
  all_goals omega
theorem few1 (s : Int) : s < 1 ↔ few s < 1 := by
  unfold few
  repeat' split
  all_goals omega
theorem few9 (s : Int) : s > 8 ↔ few s > 8 := by
  unfold few
  repeat' split
  all_goals omega
theorem few1' (s : Int) : s ≥ 1 ↔ few s ≥ 1 := by
  unfold few
  repeat' split
  all_goals omega
theorem few9' (s : Int) : s ≤ 8 ↔ few s ≤ 8 := by
  unfold few
  repeat' split
  all_goals omega
theorem p2_few (k : Nat) (s c : Int) (a b : ByteArray) (e : Bool) : sprlaw6_PctPlain.j2 k s c a b e = sprlaw6_PctPlain.j2 k (few s) c a b e := by
  cases k with
  | zero => rfl
  | succ k => rw [sprlaw6_PctPlain.j2, sprlaw6_PctPlain.j2]; simp only [in_few k s c, few8 s]
theorem p1_few (k : Nat) (s c : Int) (a b : ByteArray) (e : Bool) : sprlaw6_PctPlain.j1 k s c a b e = sprlaw6_PctPlain.j1 k (few s) c a b e := by
  cases k with
  | zero => rfl
  | succ k => rw [sprlaw6_PctPlain.j1, sprlaw6_PctPlain.j1]; simp only [p2_few k s, few1 s, few9 s]
theorem p0_few (k : Nat) (s c : Int) (a : ByteArray) (e : Bool) : sprlaw6_PctPlain.j0 k s c a e = sprlaw6_PctPlain.j0 k (few s) c a e := by
  cases k with
  | zero => rfl
  | succ k => rw [sprlaw6_PctPlain.j0, sprlaw6_PctPlain.j0]; simp only [p1_few k s, few1' s, few9' s]
theorem plain_few (k : Nat) (s c : Int) : sprlaw6_PctPlain.f k s c = sprlaw6_PctPlain.f k (few s) c := by
  unfold sprlaw6_PctPlain.f
  simp only [encode_few k s, p0_few k s]
theorem plain_tab0 : ∀ c : Fin 256, sprlaw6_PctPlain.f 70 0 (c.val : Int) = some true := by decide +kernel
theorem plain_tab1 : ∀ c : Fin 256, sprlaw6_PctPlain.f 70 1 (c.val : Int) = some true := by decide +kernel
theorem plain_tab2 : ∀ c : Fin 256, sprlaw6_PctPlain.f 70 2 (c.val : Int) = some true := by decide +kernel
theorem plain_tab3 : ∀ c : Fin 256, sprlaw6_PctPlain.f 70 3 (c.val : Int) = some true := by decide +kernel
theorem plain_tab4 : ∀ c : Fin 256, sprlaw6_PctPlain.f 70 4 (c.val : Int) = some true := by decide +kernel
theorem plain_tab5 : ∀ c : Fin 256, sprlaw6_PctPlain.f 70 5 (c.val : Int) = some true := by decide +kernel
theorem plain_tab6 : ∀ c : Fin 256, sprlaw6_PctPlain.f 70 6 (c.val : Int) = some true := by decide +kernel
theorem plain_tab7 : ∀ c : Fin 256, sprlaw6_PctPlain.f 70 7 (c.val : Int) = some true := by decide +kernel
theorem plain_tab8 : ∀ c : Fin 256, sprlaw6_PctPlain.f 70 8 (c.val : Int) = some true := by decide +kernel
theorem plain_tab9 : ∀ c : Fin 256, sprlaw6_PctPlain.f 70 9 (c.val : Int) = some true := by decide +kernel

theorem PctPlain : sprlaw6_PctPlain.Pure := by
  intro s c _ hc
  have hc := wf_u8 hc
  refine ⟨70, ?_⟩
  rw [plain_few]
  have hb := few_bd s
  generalize few s = t at hb
  have : t = 0 ∨ t = 1 ∨ t = 2 ∨ t = 3 ∨ t = 4 ∨ t = 5 ∨ t = 6 ∨ t = 7 ∨ t = 8 ∨ t = 9 := by omega
  rcases this with rfl | rfl | rfl | rfl | rfl | rfl | rfl | rfl | rfl | rfl
  · exact at_byte (P := fun c => sprlaw6_PctPlain.f 70 0 c = some true) plain_tab0 hc.1 hc.2
  · exact at_byte (P := fun c => sprlaw6_PctPlain.f 70 1 c = some true) plain_tab1 hc.1 hc.2
  · exact at_byte (P := fun c => sprlaw6_PctPlain.f 70 2 c = some true) plain_tab2 hc.1 hc.2
  · exact at_byte (P := fun c => sprlaw6_PctPlain.f 70 3 c = some true) plain_tab3 hc.1 hc.2
  · exact at_byte (P := fun c => sprlaw6_PctPlain.f 70 4 c = some true) plain_tab4 hc.1 hc.2
  · exact at_byte (P := fun c => sprlaw6_PctPlain.f 70 5 c = some true) plain_tab5 hc.1 hc.2
  · exact at_byte (P := fun c => sprlaw6_PctPlain.f 70 6 c = some true) plain_tab6 hc.1 hc.2
  · exact at_byte (P := fun c => sprlaw6_PctPlain.f 70 7 c = some true) plain_tab7 hc.1 hc.2
  · exact at_byte (P := fun c => sprlaw6_PctPlain.f 70 8 c = some true) plain_tab8 hc.1 hc.2
  · exact at_byte (P := fun c => sprlaw6_PctPlain.f 70 9 c = some true) plain_tab9 hc.1 hc.2

end Go.Proofs.Ytfidpocajehelaa.Pure
