/- Bytes as digits and back: what Hex and Unhex come to, in both texts. No conditions. -/
import Derived.Lib.Strings
import Derived.Test.YtfknnppphijfpaaPAllx7
import Derived.Test.YtfknnppphijfpaaComN
namespace Go.Proofs.Ytfknnppphijfpaa.Pure
open Go.RowKit Go.Proofs.Ytfknnppphijfpaa.PAll Go.Proofs.YtfknnppphijfpaaW.PrintWords Go.Proofs.YtfknnppphijfpaaW.PrintLast Go.Proofs.YtfknnppphijfpaaW.PrintMore

/-! ### texts and lists of bytes -/
theorem strOfNums_inj (a b : List Int) (ha : ∀ x ∈ a, 0 ≤ x ∧ x ≤ 255) (hb : ∀ x ∈ b, 0 ≤ x ∧ x ≤ 255) (h : (a.map fun n : Int => UInt8.ofNat n.toNat) = (b.map fun n : Int => UInt8.ofNat n.toNat)) : a = b := by
  have key : ∀ l : List Int, (∀ x ∈ l, 0 ≤ x ∧ x ≤ 255) → ((l.map fun n : Int => UInt8.ofNat n.toNat).map fun u : UInt8 => (u.toNat : Int)) = l := by
    intro l hl
    rw [List.map_map]
    refine (List.map_congr_left (g := id) fun x hx => ?_).trans (List.map_id l)
    have := hl x hx
    simp only [Function.comp, id, UInt8.toNat_ofNat']
    omega
  rw [← key a ha, h, key b hb]
theorem bytesOf_bd (s : ByteArray) : ∀ x ∈ bytesOf s, 0 ≤ x ∧ x ≤ 255 := by
  intro x hx
  obtain ⟨u, _, rfl⟩ := List.mem_map.mp hx
  have := u.toNat_lt
  omega
theorem str_bytesOf (s : ByteArray) : ((bytesOf s).map fun n : Int => UInt8.ofNat n.toNat) = s.data.toList := by
  unfold bytesOf
  rw [List.map_map]
  refine (List.map_congr_left (g := id) fun x hx => ?_).trans (List.map_id _)
  simp
theorem bytesOf_str (l : List Int) (hl : ∀ x ∈ l, 0 ≤ x ∧ x ≤ 255) : bytesOf (strOfNums l) = l := by
  refine strOfNums_inj _ _ (bytesOf_bd _) hl ?_
  rw [str_bytesOf, strOfNums_data]
theorem str_same (l : List Int) (s : ByteArray) (hl : ∀ x ∈ l, 0 ≤ x ∧ x ≤ 255) : (strOfNums l).toList = s.toList ↔ l = bytesOf s := by
  rw [Lib.toList_data, Lib.toList_data, strOfNums_data, ← str_bytesOf s]
  constructor
  · exact fun h => strOfNums_inj _ _ hl (bytesOf_bd s) h
  · rintro rfl; rfl
theorem bt_at' (s : ByteArray) (i : Nat) (h : i < (bytesOf s).length) : bt s (i : Int) = (bytesOf s)[i] := by
  rw [← rd_bytesOf, rd_at _ _ h]
/-! ### digits -/
abbrev hexes : ByteArray := ⟨#[48, 49, 50, 51, 52, 53, 54, 55, 56, 57, 97, 98, 99, 100, 101, 102]⟩
def low (c : Int) : Int := Lib.indexByte hexes.data.toList c.toNat.toUInt8
def dig (c : Int) : Int := if 48 ≤ c ∧ c ≤ 57 then c - 48 else if 97 ≤ c ∧ c ≤ 102 then c - 97 + 10 else if 65 ≤ c ∧ c ≤ 70 then c - 65 + 10 else -1
def comb (h l : Int) : Int := (Go.bits .or .i64 (wrap64 (h * 16)) l) % 256
def pair (x : Int) : List Int := [bt hexes (x / 16), bt hexes (Go.bits .and .u8 x 15)]
def hexL (l : List Int) : List Int := l.flatMap pair
theorem digit_facts : ∀ c : Fin 256, -1 ≤ low (c.val : Int) ∧ low (c.val : Int) ≤ 15 ∧ (0 ≤ low (c.val : Int) → dig (c.val : Int) = low (c.val : Int) ∧ bt hexes (low (c.val : Int)) = (c.val : Int)) ∧
    (0 ≤ dig (c.val : Int) → dig (c.val : Int) ≤ 15 ∧ (bt hexes (dig (c.val : Int)) = (c.val : Int) → low (c.val : Int) = dig (c.val : Int))) := by decide +kernel
theorem byte_facts : ∀ x : Fin 256, 0 ≤ bt hexes ((x.val : Int) / 16) ∧ bt hexes ((x.val : Int) / 16) ≤ 255 ∧ low (bt hexes ((x.val : Int) / 16)) = (x.val : Int) / 16 ∧
    low (bt hexes (Go.bits .and .u8 (x.val : Int) 15)) = (x.val : Int) % 16 ∧ comb ((x.val : Int) / 16) ((x.val : Int) % 16) = (x.val : Int) ∧ 0 ≤ Go.bits .and .u8 (x.val : Int) 15 ∧ Go.bits .and .u8 (x.val : Int) 15 < 16 := by decide +kernel
theorem comb_facts : ∀ h l : Fin 16, 0 ≤ comb (h.val : Int) (l.val : Int) ∧ comb (h.val : Int) (l.val : Int) ≤ 255 ∧ comb (h.val : Int) (l.val : Int) / 16 = (h.val : Int) ∧ Go.bits .and .u8 (comb (h.val : Int) (l.val : Int)) 15 = (l.val : Int) := by decide +kernel
theorem at_byte {P : Int → Prop} (h : ∀ x : Fin 256, P (x.val : Int)) {c : Int} (h0 : 0 ≤ c) (h1 : c ≤ 255) : P c := by
  have := h ⟨c.toNat, by omega⟩
  rwa [show ((c.toNat : Nat) : Int) = c by omega] at this
theorem at_two {P : Int → Int → Prop} (h : ∀ x y : Fin 16, P (x.val : Int) (y.val : Int)) {a b : Int} (h0 : 0 ≤ a) (h1 : a ≤ 15) (k0 : 0 ≤ b) (k1 : b ≤ 15) : P a b := by
  have := h ⟨a.toNat, by omega⟩ ⟨b.toNat, by omega⟩
  rwa [show ((a.toNat : Nat) : Int) = a by omega, show ((b.toNat : Nat) : Int) = b by omega] at this
theorem pair_comb {h l : Int} (h0 : 0 ≤ h) (h1 : h ≤ 15) (k0 : 0 ≤ l) (k1 : l ≤ 15) : pair (comb h l) = [bt hexes h, bt hexes l] := by
  have := at_two (P := fun a b => 0 ≤ comb a b ∧ comb a b ≤ 255 ∧ comb a b / 16 = a ∧ Go.bits .and .u8 (comb a b) 15 = b) comb_facts h0 h1 k0 k1
  unfold pair
  rw [this.2.2.1, this.2.2.2]
theorem hexL_bd (l : List Int) : ∀ x ∈ hexL l, 0 ≤ x ∧ x ≤ 255 := by
  intro x hx
  obtain ⟨y, _, hy⟩ := List.mem_flatMap.mp hx
  simp only [pair, List.mem_cons, List.not_mem_nil, or_false] at hy
  rcases hy with rfl | rfl <;> exact bt_range _ _
theorem hexL_cons (x : Int) (l : List Int) : hexL (x :: l) = pair x ++ hexL l := rfl
theorem hexL_length (l : List Int) : (hexL l).length = 2 * l.length := by
  induction l with
  | nil => rfl
  | cons x l ih => rw [hexL_cons, List.length_append, ih, List.length_cons]; simp only [pair, List.length_cons, List.length_nil]; omega
/-! ### Hex -/
theorem and15_bd {x : Int} (h0 : 0 ≤ x) (h1 : x ≤ 255) : 0 ≤ Go.bits .and .u8 x 15 ∧ Go.bits .and .u8 x 15 < 16 := by
  have := at_byte (P := fun x => 0 ≤ Go.bits .and .u8 x 15 ∧ Go.bits .and .u8 x 15 < 16) (fun c => (byte_facts c).2.2.2.2.2) h0 h1
  exact this
theorem take_hexL (l : List Int) (i : Nat) (h : i < l.length) : hexL (l.take i) ++ pair l[i] = hexL (l.take (i + 1)) := by
  unfold hexL
  rw [List.take_succ_eq_append_getElem h, List.flatMap_append]
  simp only [List.flatMap_cons, List.flatMap_nil, List.append_nil]
theorem bhex_l0 (l : List Int) (hw : ∀ x ∈ l, 0 ≤ x ∧ x ≤ 255) (hl : l.length ≤ 8000) : ∀ (d i : Nat), i + d = l.length → ∀ i' : Int, i' = (i : Int) →
    Ev (fun k => bits_Hex.l0 k (hexL (l.take i)) l (l.length : Int) i') (strOfNums (hexL l)) := by
  intro d
  induction d with
  | zero =>
    intro i hi i' e
    subst e
    refine Ev.step (fun k => ?_) (Ev.now _)
    rw [bits_Hex.l0, if_neg (by omega), List.take_of_length_le (by omega)]
  | succ d ih =>
    intro i hi i' e
    subst e
    have hlt : i < l.length := by omega
    have hb := hw l[i] (List.getElem_mem hlt)
    have h15 := and15_bd hb.1 hb.2
    refine Ev.step (fun k => ?_) (ih (i + 1) (by omega) (wrap64 (i + 1)) (by rw [wrap_small (by omega) (by omega)]; omega))
    rw [bits_Hex.l0, if_pos (by omega), if_pos (by omega), if_pos (by omega), rd_at l i hlt, if_pos (by omega), if_pos (by omega), if_pos h15.1, if_pos h15.2, Option.bind_some]
    rw [if_pos (by rw [hexL_length, List.length_take]; simp only [List.length_cons, List.length_nil]; omega)]
    rw [← take_hexL l i hlt]
    rfl
theorem bhex (l : List Int) (hw : ∀ x ∈ l, 0 ≤ x ∧ x ≤ 255) (hl : l.length ≤ 8000) : Ev (fun k => bits_Hex.f k l) (strOfNums (hexL l)) := bhex_l0 l hw hl l.length 0 (by omega) 0 rfl
theorem rhex_l0 (l : List Int) (hw : ∀ x ∈ l, 0 ≤ x ∧ x ≤ 255) (hl : l.length ≤ 8000) : ∀ (d i : Nat), i + d = l.length → ∀ i' : Int, i' = (i : Int) →
    Ev (fun k => sprref1_Hex.l0 k l hexes (hexL (l.take i)) i') (strOfNums (hexL l)) := by
  intro d
  induction d with
  | zero =>
    intro i hi i' e
    subst e
    refine Ev.step (fun k => ?_) (Ev.now _)
    rw [sprref1_Hex.l0, if_neg (by omega), List.take_of_length_le (by omega)]
  | succ d ih =>
    intro i hi i' e
    subst e
    have hlt : i < l.length := by omega
    have hb := hw l[i] (List.getElem_mem hlt)
    have h15 := and15_bd hb.1 hb.2
    have hsz : (hexes.size : Int) = 16 := rfl
    refine Ev.step (fun k => ?_) (ih (i + 1) (by omega) (wrap64 (i + 1)) (by rw [wrap_small (by omega) (by omega)]; omega))
    rw [sprref1_Hex.l0, if_pos (by omega), if_pos (by omega), rd_at l i hlt, hsz, if_pos (by omega), if_pos (by omega), if_pos h15.1, if_pos h15.2, Option.bind_some]
    rw [if_pos (by rw [hexL_length, List.length_take]; simp only [List.length_cons, List.length_nil]; omega)]
    rw [← take_hexL l i hlt]
    rfl
theorem rhex (l : List Int) (hw : ∀ x ∈ l, 0 ≤ x ∧ x ≤ 255) (hl : l.length ≤ 8000) : Ev (fun k => sprref1_Hex.f k l) (strOfNums (hexL l)) := rhex_l0 l hw hl l.length 0 (by omega) 0 rfl
/-! ### Unhex -/
def unlow : List Int → Option (List Int)
  | a :: b :: r => if low a < 0 then none else if low b < 0 then none else (unlow r).map (comb (low a) (low b) :: ·)
  | [_] => none
  | [] => some []
def undig : List Int → Option (List Int)
  | a :: b :: r => if dig a < 0 then none else if dig b < 0 then none else (undig r).map (comb (dig a) (dig b) :: ·)
  | _ => some []
theorem low_facts {c : Int} (h0 : 0 ≤ c) (h1 : c ≤ 255) : -1 ≤ low c ∧ low c ≤ 15 ∧ (0 ≤ low c → dig c = low c ∧ bt hexes (low c) = c) ∧ (0 ≤ dig c → dig c ≤ 15 ∧ (bt hexes (dig c) = c → low c = dig c)) :=
  at_byte (P := fun c => -1 ≤ low c ∧ low c ≤ 15 ∧ (0 ≤ low c → dig c = low c ∧ bt hexes (low c) = c) ∧ (0 ≤ dig c → dig c ≤ 15 ∧ (bt hexes (dig c) = c → low c = dig c))) digit_facts h0 h1
theorem unlow_some : ∀ (cs r : List Int), (∀ x ∈ cs, 0 ≤ x ∧ x ≤ 255) → unlow cs = some r → undig cs = some r ∧ hexL r = cs
  | [], r, _, h => by
    simp only [unlow, Option.some.injEq] at h
    subst h
    exact ⟨rfl, rfl⟩
  | [_], r, _, h => by simp [unlow] at h
  | a :: b :: cs, r, hb, h => by
    have fa := low_facts (hb a (by simp)).1 (hb a (by simp)).2
    have fb := low_facts (hb b (by simp)).1 (hb b (by simp)).2
    rw [unlow] at h
    by_cases c1 : low a < 0
    · rw [if_pos c1] at h; exact absurd h (by simp)
    rw [if_neg c1] at h
    by_cases c2 : low b < 0
    · rw [if_pos c2] at h; exact absurd h (by simp)
    rw [if_neg c2] at h
    obtain ⟨r', hr, rfl⟩ := Option.map_eq_some_iff.mp h
    have ih := unlow_some cs r' (fun x hx => hb x (by simp [hx])) hr
    have ea := fa.2.2.1 (by omega)
    have eb := fb.2.2.1 (by omega)
    constructor
    · rw [undig, ea.1, eb.1, if_neg c1, if_neg c2, ih.1]; rfl
    · rw [hexL_cons, pair_comb (by omega) fa.2.1 (by omega) fb.2.1, ea.2, eb.2, ih.2]; rfl
theorem undig_some : ∀ (cs r : List Int), (∀ x ∈ cs, 0 ≤ x ∧ x ≤ 255) → undig cs = some r → hexL r = cs → unlow cs = some r
  | [], r, _, h, k => by simpa [unlow, undig] using h
  | [a], r, _, h, k => by
    simp only [undig, Option.some.injEq] at h
    subst h
    exact absurd k (by simp [hexL])
  | a :: b :: cs, r, hb, h, k => by
    have fa := low_facts (hb a (by simp)).1 (hb a (by simp)).2
    have fb := low_facts (hb b (by simp)).1 (hb b (by simp)).2
    rw [undig] at h
    by_cases c1 : dig a < 0
    · rw [if_pos c1] at h; exact absurd h (by simp)
    rw [if_neg c1] at h
    by_cases c2 : dig b < 0
    · rw [if_pos c2] at h; exact absurd h (by simp)
    rw [if_neg c2] at h
    obtain ⟨r', hr, rfl⟩ := Option.map_eq_some_iff.mp h
    have da := fa.2.2.2 (by omega)
    have db := fb.2.2.2 (by omega)
    rw [hexL_cons, pair_comb (by omega) da.1 (by omega) db.1] at k
    simp only [List.cons_append, List.nil_append, List.cons.injEq] at k
    have ih := undig_some cs r' (fun x hx => hb x (by simp [hx])) hr k.2.2
    have ea := da.2 k.1
    have eb := db.2 k.2.1
    rw [unlow, ea, eb, if_neg c1, if_neg c2, ih]
    rfl
theorem undig_bd : ∀ (cs r : List Int), (∀ x ∈ cs, 0 ≤ x ∧ x ≤ 255) → undig cs = some r → (∀ x ∈ r, 0 ≤ x ∧ x ≤ 255) ∧ 2 * r.length ≤ cs.length
  | [], r, _, h => by simp only [undig, Option.some.injEq] at h; subst h; simp
  | [a], r, _, h => by simp only [undig, Option.some.injEq] at h; subst h; simp
  | a :: b :: cs, r, hb, h => by
    have fa := low_facts (hb a (by simp)).1 (hb a (by simp)).2
    have fb := low_facts (hb b (by simp)).1 (hb b (by simp)).2
    rw [undig] at h
    by_cases c1 : dig a < 0
    · rw [if_pos c1] at h; exact absurd h (by simp)
    rw [if_neg c1] at h
    by_cases c2 : dig b < 0
    · rw [if_pos c2] at h; exact absurd h (by simp)
    rw [if_neg c2] at h
    obtain ⟨r', hr, rfl⟩ := Option.map_eq_some_iff.mp h
    have da := fa.2.2.2 (by omega)
    have db := fb.2.2.2 (by omega)
    have ih := undig_bd cs r' (fun x hx => hb x (by simp [hx])) hr
    have hc := at_two (P := fun a b => 0 ≤ comb a b ∧ comb a b ≤ 255 ∧ comb a b / 16 = a ∧ Go.bits .and .u8 (comb a b) 15 = b) comb_facts (a := dig a) (b := dig b) (by omega) da.1 (by omega) db.1
    refine ⟨fun x hx => ?_, ?_⟩
    · rcases List.mem_cons.mp hx with rfl | hx
      · exact ⟨hc.1, hc.2.1⟩
      · exact ih.1 x hx
    · simp only [List.length_cons]; omega
theorem unlow_hexL : ∀ (l : List Int), (∀ x ∈ l, 0 ≤ x ∧ x ≤ 255) → unlow (hexL l) = some l
  | [], _ => rfl
  | x :: l, hb => by
    have hx := hb x (by simp)
    have f := at_byte (P := fun x => 0 ≤ bt hexes (x / 16) ∧ bt hexes (x / 16) ≤ 255 ∧ low (bt hexes (x / 16)) = x / 16 ∧ low (bt hexes (Go.bits .and .u8 x 15)) = x % 16 ∧ comb (x / 16) (x % 16) = x ∧ 0 ≤ Go.bits .and .u8 x 15 ∧ Go.bits .and .u8 x 15 < 16) byte_facts hx.1 hx.2
    rw [hexL_cons]
    simp only [pair, List.cons_append, List.nil_append]
    rw [unlow, f.2.2.1, f.2.2.2.1, if_neg (by omega), if_neg (by omega), unlow_hexL l (fun y hy => hb y (by simp [hy])), f.2.2.2.2.1]
    rfl
def told (o : List Int) : Option (List Int) → List Int × Bool
  | some r => (o ++ r, true)
  | none => ([], false)
theorem drop_two (cs : List Int) (i : Nat) (h : i + 1 < cs.length) : cs.drop i = cs[i] :: cs[i + 1] :: cs.drop (i + 2) := by
  rw [List.drop_eq_getElem_cons (by omega), List.drop_eq_getElem_cons h]
theorem bunhex_l0 (s : ByteArray) (hs : s.size ≤ 20000) : ∀ (d i : Nat) (o : List Int), i + 2 * d = s.size → o.length ≤ i → ∀ i' : Int, i' = (i : Int) →
    Ev (fun k => bits_Unhex.l0 k s o i') (told o (unlow ((bytesOf s).drop i))) := by
  have hl := bytesOf_length s
  intro d
  induction d with
  | zero =>
    intro i o hi ho i' e
    subst e
    refine Ev.step (fun k => ?_) (Ev.now _)
    rw [bits_Unhex.l0, if_neg (by omega), List.drop_eq_nil_of_le (by omega)]
    simp [unlow, told]
  | succ d ih =>
    intro i o hi ho i' e
    subst e
    have e1 : wrap64 ((i : Int) + 1) = ((i + 1 : Nat) : Int) := by rw [wrap_small (by omega) (by omega)]; omega
    have e2 : wrap64 ((i : Int) + 2) = ((i + 2 : Nat) : Int) := by rw [wrap_small (by omega) (by omega)]; omega
    rw [drop_two _ i (by omega), unlow]
    have b0 := bt_at' s i (by omega)
    have b1 := bt_at' s (i + 1) (by omega)
    have l0 : Lib.indexByte hexes.data.toList (bt s (i : Int)).toNat.toUInt8 = low (bytesOf s)[i] := by rw [b0]; rfl
    have l1 : Lib.indexByte hexes.data.toList (bt s ((i + 1 : Nat) : Int)).toNat.toUInt8 = low ((bytesOf s)[i + 1]'(by omega)) := by rw [b1]; rfl
    have un : ∀ k, bits_Unhex.l0 (k + 1) s o (i : Int) = if low (bytesOf s)[i] < 0 then (some (([] : List Int), false)) else (if low ((bytesOf s)[i + 1]'(by omega)) < 0 then (some (([] : List Int), false)) else (bits_Unhex.l0 k s (o ++ [comb (low (bytesOf s)[i]) (low ((bytesOf s)[i + 1]'(by omega)))]) ((i + 2 : Nat) : Int))) := by
      intro k
      rw [bits_Unhex.l0, if_pos (by omega), if_pos (by omega), strings_IndexByte.f, Option.bind_some, e1, if_pos (by omega), if_pos (by omega), strings_IndexByte.f, Option.bind_some, l0, l1, if_pos (show o.length < 140737488355328 by omega), e2]
      rfl
    by_cases c1 : low (bytesOf s)[i] < 0
    · rw [if_pos c1]
      exact Ev.step (fun k => by rw [un, if_pos c1]; rfl) (Ev.now _)
    by_cases c2 : low ((bytesOf s)[i + 1]'(by omega)) < 0
    · rw [if_neg c1, if_pos c2]
      exact Ev.step (fun k => by rw [un, if_neg c1, if_pos c2]; rfl) (Ev.now _)
    rw [if_neg c1, if_neg c2]
    have h := ih (i + 2) (o ++ [comb (low (bytesOf s)[i]) (low ((bytesOf s)[i + 1]'(by omega)))]) (by omega) (by simp; omega) ((i + 2 : Nat) : Int) rfl
    have e3 : told (o ++ [comb (low (bytesOf s)[i]) (low ((bytesOf s)[i + 1]'(by omega)))]) (unlow ((bytesOf s).drop (i + 2))) = told o ((unlow ((bytesOf s).drop (i + 2))).map (comb (low (bytesOf s)[i]) (low ((bytesOf s)[i + 1]'(by omega))) :: ·)) := by
      cases unlow ((bytesOf s).drop (i + 2)) <;> simp [told]
    rw [e3] at h
    exact Ev.step (fun k => by rw [un, if_neg c1, if_neg c2]) h
theorem unlow_odd : ∀ (cs : List Int), cs.length % 2 = 1 → unlow cs = none
  | [], h => by simp at h
  | [_], _ => rfl
  | a :: b :: cs, h => by
    rw [unlow, unlow_odd cs (by simp only [List.length_cons] at h; omega)]
    simp
theorem bunhex (s : ByteArray) (hs : s.size ≤ 20000) : Ev (fun k => bits_Unhex.f k s) (told [] (unlow (bytesOf s))) := by
  simp only [bits_Unhex.f]
  by_cases c : ((s.size : Int) % 2) = 0
  · simp only [if_pos c]
    have h := bunhex_l0 s hs (s.size / 2) 0 [] (by omega) (by simp) 0 rfl
    rwa [List.drop_zero] at h
  · simp only [if_neg c]
    rw [unlow_odd _ (by rw [bytesOf_length]; omega)]
    exact Ev.now _
theorem digit_ev (c : Int) (h0 : 0 ≤ c) (h1 : c ≤ 255) : Ev (fun k => sprref1_Digit.f k c) (dig c) := by
  have j1 : ∀ b, Ev (fun k => sprref1_Digit.j1 k c b) (if b = true then ((c - 97) % 256) + 10 else if 65 ≤ c ∧ c ≤ 70 then ((c - 65) % 256) + 10 else -1) := by
    intro b
    refine Ev.step (fun k => ?_) (Ev.now _)
    rw [sprref1_Digit.j1]
    by_cases hb : b = true
    · rw [if_pos hb, if_pos hb]
    rw [if_neg hb, if_neg hb]
    by_cases c1 : c ≥ 65
    · by_cases c2 : c ≤ 70
      · rw [if_pos c1, if_pos c2, if_pos ⟨c1, c2⟩]
      · rw [if_pos c1, if_neg c2, if_neg (by omega)]
    · rw [if_neg c1, if_neg (by omega)]
  have j0 : ∀ b, Ev (fun k => sprref1_Digit.j0 k c b) (if b = true then (c - 48) % 256 else if 97 ≤ c ∧ c ≤ 102 then ((c - 97) % 256) + 10 else if 65 ≤ c ∧ c ≤ 70 then ((c - 65) % 256) + 10 else -1) := by
    intro b
    by_cases hb : b = true
    · rw [if_pos hb]
      exact Ev.step (fun k => by rw [sprref1_Digit.j0, if_pos hb]) (Ev.now _)
    rw [if_neg hb]
    by_cases c1 : c ≥ 97
    · have h := j1 (decide (c ≤ 102))
      by_cases c2 : c ≤ 102
      · rw [if_pos ⟨c1, c2⟩]
        rw [if_pos (decide_eq_true c2)] at h
        exact Ev.step (fun k => by rw [sprref1_Digit.j0, if_neg hb, if_pos c1]) h
      · rw [if_neg (by omega)]
        rw [if_neg (by simpa using c2)] at h
        exact Ev.step (fun k => by rw [sprref1_Digit.j0, if_neg hb, if_pos c1]) h
    · rw [if_neg (by omega)]
      have h := j1 false
      rw [if_neg (by decide)] at h
      exact Ev.step (fun k => by rw [sprref1_Digit.j0, if_neg hb, if_neg c1]) h
  have e : (if 48 ≤ c ∧ c ≤ 57 then (c - 48) % 256 else if 97 ≤ c ∧ c ≤ 102 then ((c - 97) % 256) + 10 else if 65 ≤ c ∧ c ≤ 70 then ((c - 65) % 256) + 10 else -1) = dig c := by
    unfold dig
    repeat' split
    all_goals omega
  rw [← e]
  by_cases c1 : c ≥ 48
  · have h := j0 (decide (c ≤ 57))
    by_cases c2 : c ≤ 57
    · rw [if_pos ⟨c1, c2⟩]
      rw [if_pos (decide_eq_true c2)] at h
      exact Ev.congr (fun k => by rw [sprref1_Digit.f, if_pos c1]) h
    · rw [if_neg (by omega)]
      rw [if_neg (by simpa using c2)] at h
      exact Ev.congr (fun k => by rw [sprref1_Digit.f, if_pos c1]) h
  · rw [if_neg (by omega)]
    have h := j0 false
    rw [if_neg (by decide)] at h
    exact Ev.congr (fun k => by rw [sprref1_Digit.f, if_neg c1]) h
/-- The end of the reference's Unhex: is it the text? -/
def check (s : ByteArray) (o : List Int) : List Int × Bool := if hexL o = bytesOf s then (o, true) else ([], false)
def rtold (s : ByteArray) (o : List Int) : Option (List Int) → List Int × Bool
  | some r => check s (o ++ r)
  | none => ([], false)
theorem runhex_l0 (s : ByteArray) (hs : s.size ≤ 8000) : ∀ (d i : Nat) (o : List Int), (i + 2 * d = s.size ∨ i + 2 * d + 1 = s.size) → o.length ≤ i → (∀ x ∈ o, 0 ≤ x ∧ x ≤ 255) → ∀ i' : Int, i' = (i : Int) →
    Ev (fun k => sprref1_Unhex.l0 k s o i') (rtold s o (undig ((bytesOf s).drop i))) := by
  have hl := bytesOf_length s
  have hbd := bytesOf_bd s
  intro d
  induction d with
  | zero =>
    intro i o hi ho hob i' e
    subst e
    have e1 : wrap64 ((i : Int) + 1) = ((i + 1 : Nat) : Int) := by rw [wrap_small (by omega) (by omega)]; omega
    have e0 : undig ((bytesOf s).drop i) = some [] := by
      have hdl : ((bytesOf s).drop i).length ≤ 1 := by rw [List.length_drop]; omega
      match h : (bytesOf s).drop i, hdl with
      | [], _ => rfl
      | [_], _ => rfl
      | _ :: _ :: _, hdl => simp at hdl
    rw [e0]
    refine Ev.step (f := fun k => (sprref1_Hex.f k o).bind fun t236 => (if t236.toList = s.toList then (some (o, true)) else (some (([] : List Int), false)))) (fun k => by rw [sprref1_Unhex.l0, e1, if_neg (by omega)]) ?_
    refine Ev.bind (rhex o hob (by omega)) ?_
    show Ev _ (check s (o ++ []))
    rw [List.append_nil]
    unfold check
    by_cases c : hexL o = bytesOf s
    · rw [if_pos c]
      simp only [if_pos ((str_same _ s (hexL_bd o)).mpr c)]
      exact Ev.now _
    · rw [if_neg c]
      simp only [if_neg (fun h => c ((str_same _ s (hexL_bd o)).mp h))]
      exact Ev.now _
  | succ d ih =>
    intro i o hi ho hob i' e
    subst e
    have e1 : wrap64 ((i : Int) + 1) = ((i + 1 : Nat) : Int) := by rw [wrap_small (by omega) (by omega)]; omega
    have e2 : wrap64 ((i : Int) + 2) = ((i + 2 : Nat) : Int) := by rw [wrap_small (by omega) (by omega)]; omega
    have b0 := bt_at' s i (by omega)
    have b1 := bt_at' s (i + 1) (by omega)
    have r0 := hbd (bytesOf s)[i] (List.getElem_mem _)
    have r1 := hbd ((bytesOf s)[i + 1]'(by omega)) (List.getElem_mem _)
    rw [drop_two _ i (by omega), undig]
    refine Ev.step (f := fun k => (sprref1_Digit.f k (bytesOf s)[i]).bind fun t237 => ((sprref1_Digit.f k ((bytesOf s)[i + 1]'(by omega))).bind fun t238 => (if t237 < 0 then (some (([] : List Int), false)) else (if t238 < 0 then (some (([] : List Int), false)) else (sprref1_Unhex.l0 k s (o ++ [comb t237 t238]) ((i + 2 : Nat) : Int)))))) (fun k => ?_) ?_
    · rw [sprref1_Unhex.l0, e1, if_pos (by omega), if_pos (by omega), if_pos (by omega), b0, b1, e2]
      simp only [if_pos (show o.length < 140737488355328 by omega), if_pos (show (0 : Int) ≤ ((i + 1 : Nat) : Int) by omega)]
      rfl
    refine Ev.bind (digit_ev _ r0.1 r0.2) ?_
    refine Ev.bind (digit_ev _ r1.1 r1.2) ?_
    by_cases c1 : dig (bytesOf s)[i] < 0
    · simp only [if_pos c1]; exact Ev.now _
    by_cases c2 : dig ((bytesOf s)[i + 1]'(by omega)) < 0
    · simp only [if_neg c1, if_pos c2]; exact Ev.now _
    simp only [if_neg c1, if_neg c2]
    have fa := low_facts r0.1 r0.2
    have fb := low_facts r1.1 r1.2
    have hc := at_two (P := fun a b => 0 ≤ comb a b ∧ comb a b ≤ 255 ∧ comb a b / 16 = a ∧ Go.bits .and .u8 (comb a b) 15 = b) comb_facts (a := dig (bytesOf s)[i]) (b := dig ((bytesOf s)[i + 1]'(by omega))) (by omega) (fa.2.2.2 (by omega)).1 (by omega) (fb.2.2.2 (by omega)).1
    have h := ih (i + 2) (o ++ [comb (dig (bytesOf s)[i]) (dig ((bytesOf s)[i + 1]'(by omega)))]) (by omega) (by simp; omega) (by
      intro x hx
      rcases List.mem_append.mp hx with hx | hx
      · exact hob x hx
      · rw [List.mem_singleton.mp hx]; exact ⟨hc.1, hc.2.1⟩) ((i + 2 : Nat) : Int) rfl
    have e3 : rtold s (o ++ [comb (dig (bytesOf s)[i]) (dig ((bytesOf s)[i + 1]'(by omega)))]) (undig ((bytesOf s).drop (i + 2))) = rtold s o ((undig ((bytesOf s).drop (i + 2))).map (comb (dig (bytesOf s)[i]) (dig ((bytesOf s)[i + 1]'(by omega))) :: ·)) := by
      cases undig ((bytesOf s).drop (i + 2)) <;> simp [rtold]
    rw [e3] at h
    exact h
theorem runhex (s : ByteArray) (hs : s.size ≤ 8000) : Ev (fun k => sprref1_Unhex.f k s) (told [] (unlow (bytesOf s))) := by
  have hb := bytesOf_bd s
  have h := runhex_l0 s hs (s.size / 2) 0 [] (by omega) (by simp) (by simp) 0 rfl
  rw [List.drop_zero] at h
  have e : rtold s [] (undig (bytesOf s)) = told [] (unlow (bytesOf s)) := by
    cases hu : unlow (bytesOf s) with
    | some r =>
      have := unlow_some _ r hb hu
      rw [this.1]
      simp [rtold, told, check, this.2]
    | none =>
      cases hd : undig (bytesOf s) with
      | none => rfl
      | some r =>
        have hne : ¬ hexL r = bytesOf s := fun k => by
          have := undig_some _ r hb hd k
          rw [hu] at this
          exact absurd this (by simp)
        simp [rtold, told, check, hne]
  rw [e] at h
  exact h

end Go.Proofs.Ytfknnppphijfpaa.Pure
