/- Bytes by percent signs and back: what Encode and Decode come to, in both texts. No conditions. -/
import Derived.Test.YtfidpocajehelaaPAllx5
import Derived.Test.YtfidpocajehelaaComA
namespace Go.Proofs.Ytfidpocajehelaa.Pure
open Go.RowKit Go.Proofs.Ytfidpocajehelaa.PAll Go.Proofs.YtfidpocajehelaaW.PrintWords Go.Proofs.YtfidpocajehelaaW.PrintLast Go.Proofs.YtfidpocajehelaaW.PrintMore

/-! ### digits -/
abbrev hexes : ByteArray := ⟨#[48, 49, 50, 51, 52, 53, 54, 55, 56, 57, 97, 98, 99, 100, 101, 102]⟩
abbrev greats : ByteArray := ⟨#[48, 49, 50, 51, 52, 53, 54, 55, 56, 57, 65, 66, 67, 68, 69, 70]⟩
def dig (c : Int) : Int := if 48 ≤ c ∧ c ≤ 57 then c - 48 else if 97 ≤ c ∧ c ≤ 102 then c - 97 + 10 else if 65 ≤ c ∧ c ≤ 70 then c - 65 + 10 else -1
def comb (h l : Int) : Int := (Go.bits .or .i64 (wrap64 (h * 16)) l) % 256
def code (x : Int) : List Int := [37, bt greats (x / 16), bt greats (Go.bits .and .u8 x 15)]
theorem byte_facts : ∀ x : Fin 256, dig (bt greats ((x.val : Int) / 16)) = (x.val : Int) / 16 ∧ dig (bt greats (Go.bits .and .u8 (x.val : Int) 15)) = (x.val : Int) % 16 ∧
    comb ((x.val : Int) / 16) ((x.val : Int) % 16) = (x.val : Int) ∧ 0 ≤ Go.bits .and .u8 (x.val : Int) 15 ∧ Go.bits .and .u8 (x.val : Int) 15 < 16 := by decide +kernel
theorem digit_tab : ∀ c : Fin 256, pct_digit.f (c.val : Int) = some (dig (c.val : Int)) := by decide +kernel
theorem digit_eq (c : Int) (h0 : 0 ≤ c) (h1 : c ≤ 255) : pct_digit.f c = some (dig c) := at_byte (P := fun c => pct_digit.f c = some (dig c)) digit_tab h0 h1
theorem and15_bd {x : Int} (h0 : 0 ≤ x) (h1 : x ≤ 255) : 0 ≤ Go.bits .and .u8 x 15 ∧ Go.bits .and .u8 x 15 < 16 :=
  at_byte (P := fun x => 0 ≤ Go.bits .and .u8 x 15 ∧ Go.bits .and .u8 x 15 < 16) (fun c => (byte_facts c).2.2.2) h0 h1
theorem digit_ev (c : Int) (h0 : 0 ≤ c) (h1 : c ≤ 255) : Ev (fun k => sprref1_Digit.f k c) (dig c) := by
  have j1 : ∀ b, Ev (fun k => sprref1_Digit.j1 k c b) (if b = true then ((c - 97) % 256) + 10 else if 65 ≤ c ∧ c ≤ 70 then ((c - 65) % 256) + 10 else -1) := by
    intro b
    refine Ev.step (fun k => ?_) (Ev.now _)
    rw [sprref1_Digit.j1]
    by_cases hb : b = true
    · rw [if_pos hb, if_pos hb]
    rw [if_neg hb, if_neg hb]
    by_cases c1 : c ≥ 65
    · by_cases c2 : c ≤ 70
      · rw [if_pos c1, if_pos c2, if_pos ⟨c1, c2⟩]
      · rw [if_pos c1, if_neg c2, if_neg (by omega)]
    · rw [if_neg c1, if_neg (by omega)]
  have j0 : ∀ b, Ev (fun k => sprref1_Digit.j0 k c b) (if b = true then (c - 48) % 256 else if 97 ≤ c ∧ c ≤ 102 then ((c - 97) % 256) + 10 else if 65 ≤ c ∧ c ≤ 70 then ((c - 65) % 256) + 10 else -1) := by
    intro b
    by_cases hb : b = true
    · rw [if_pos hb]
      exact Ev.step (fun k => by rw [sprref1_Digit.j0, if_pos hb]) (Ev.now _)
    rw [if_neg hb]
    by_cases c1 : c ≥ 97
    · have h := j1 (decide (c ≤ 102))
      by_cases c2 : c ≤ 102
      · rw [if_pos ⟨c1, c2⟩]
        rw [if_pos (decide_eq_true c2)] at h
        exact Ev.step (fun k => by rw [sprref1_Digit.j0, if_neg hb, if_pos c1]) h
      · rw [if_neg (by omega)]
        rw [if_neg (by simpa using c2)] at h
        exact Ev.step (fun k => by rw [sprref1_Digit.j0, if_neg hb, if_pos c1]) h
    · rw [if_neg (by omega)]
      have h := j1 false
      rw [if_neg (by decide)] at h
      exact Ev.step (fun k => by rw [sprref1_Digit.j0, if_neg hb, if_neg c1]) h
  have e : (if 48 ≤ c ∧ c ≤ 57 then (c - 48) % 256 else if 97 ≤ c ∧ c ≤ 102 then ((c - 97) % 256) + 10 else if 65 ≤ c ∧ c ≤ 70 then ((c - 65) % 256) + 10 else -1) = dig c := by
    unfold dig
    repeat' split
    all_goals omega
  rw [← e]
  by_cases c1 : c ≥ 48
  · have h := j0 (decide (c ≤ 57))
    by_cases c2 : c ≤ 57
    · rw [if_pos ⟨c1, c2⟩]
      rw [if_pos (decide_eq_true c2)] at h
      exact Ev.congr (fun k => by rw [sprref1_Digit.f, if_pos c1]) h
    · rw [if_neg (by omega)]
      rw [if_neg (by simpa using c2)] at h
      exact Ev.congr (fun k => by rw [sprref1_Digit.f, if_pos c1]) h
  · rw [if_neg (by omega)]
    have h := j0 false
    rw [if_neg (by decide)] at h
    exact Ev.congr (fun k => by rw [sprref1_Digit.f, if_neg c1]) h

/-! ### Encode -/
def enc1 (s x : Int) : List Int := if s = 8 ∧ x = 32 then [43] else if inS s x = true then code x else [x]
def encL (s : Int) (l : List Int) : List Int := l.flatMap (enc1 s)
theorem encL_cons (s x : Int) (l : List Int) : encL s (x :: l) = enc1 s x ++ encL s l := rfl
theorem encL_append (s : Int) (a b : List Int) : encL s (a ++ b) = encL s a ++ encL s b := by simp [encL]
theorem enc1_length (s x : Int) : 1 ≤ (enc1 s x).length ∧ (enc1 s x).length ≤ 3 := by
  unfold enc1 code
  repeat' split
  all_goals simp
theorem encL_length (s : Int) (l : List Int) : l.length ≤ (encL s l).length ∧ (encL s l).length ≤ 3 * l.length := by
  induction l with
  | nil => simp [encL]
  | cons x l ih =>
    have := enc1_length s x
    rw [encL_cons, List.length_append, List.length_cons]
    omega
theorem enc1_bd (s x : Int) (hx : 0 ≤ x ∧ x ≤ 255) : ∀ y ∈ enc1 s x, 0 ≤ y ∧ y ≤ 255 := by
  intro y hy
  unfold enc1 code at hy
  split at hy
  · simp only [List.mem_singleton] at hy; omega
  · split at hy
    · simp only [List.mem_cons, List.not_mem_nil, or_false] at hy
      rcases hy with rfl | rfl | rfl
      · omega
      · exact bt_range _ _
      · exact bt_range _ _
    · simp only [List.mem_singleton] at hy; omega
theorem encL_bd (s : Int) (l : List Int) (hl : ∀ x ∈ l, 0 ≤ x ∧ x ≤ 255) : ∀ y ∈ encL s l, 0 ≤ y ∧ y ≤ 255 := by
  intro y hy
  obtain ⟨x, hx, h⟩ := List.mem_flatMap.mp hy
  exact enc1_bd s x (hl x hx) y h
theorem take_encL (s : Int) (l : List Int) (i : Nat) (h : i < l.length) : encL s (l.take i) ++ enc1 s l[i] = encL s (l.take (i + 1)) := by
  unfold encL
  rw [List.take_succ_eq_append_getElem h, List.flatMap_append]
  simp only [List.flatMap_cons, List.flatMap_nil, List.append_nil]
theorem enc_l0 (s : Int) (l : List Int) (hw : ∀ x ∈ l, 0 ≤ x ∧ x ≤ 255) (hl : l.length ≤ 16000) : ∀ (d i : Nat), i + d = l.length → ∀ i' : Int, i' = (i : Int) →
    Ev (fun k => pct_Encode.l0 k s (encL s (l.take i)) l (l.length : Int) i') (strOfNums (encL s l)) := by
  intro d
  induction d with
  | zero =>
    intro i hi i' e
    subst e
    refine Ev.step (fun k => ?_) (Ev.now _)
    rw [pct_Encode.l0, if_neg (by omega), List.take_of_length_le (by omega)]
  | succ d ih =>
    intro i hi i' e
    subst e
    have hlt : i < l.length := by omega
    have hb := hw l[i] (List.getElem_mem hlt)
    have h15 := and15_bd hb.1 hb.2
    have hlen := (encL_length s (l.take i)).2
    rw [List.length_take] at hlen
    have h := ih (i + 1) (by omega) (wrap64 (i + 1)) (by rw [wrap_small (by omega) (by omega)]; omega)
    rw [← take_encL s l i hlt] at h
    have j1 : Ev (fun k => pct_Encode.j1 k s (encL s (l.take i)) l[i] l (l.length : Int) (i : Int) (decide (s = 8 ∧ l[i] = 32))) (strOfNums (encL s l)) := by
      by_cases c1 : s = 8 ∧ l[i] = 32
      · rw [decide_eq_true c1]
        rw [enc1, if_pos c1] at h
        refine Ev.step (fun k => ?_) h
        rw [pct_Encode.j1, if_pos rfl, if_pos (by omega)]
      · rw [decide_eq_false c1]
        rw [enc1, if_neg c1] at h
        refine Ev.step (f := fun k => _) (fun k => by rw [pct_Encode.j1, if_neg (by decide)]) ?_
        refine Ev.bind (in_ev s l[i] hb.1 hb.2) ?_
        by_cases c2 : inS s l[i] = true
        · rw [if_pos c2] at h
          simp only [if_pos c2, if_pos (show 0 ≤ l[i] / 16 by omega), if_pos (show l[i] / 16 < 16 by omega), if_pos h15.1, if_pos h15.2, Option.bind_some]
          simp only [List.length_cons, List.length_nil, if_pos (show (encL s (l.take i)).length + (0 + 1 + 1 + 1) < 140737488355328 by omega)]
          exact h
        · rw [if_neg c2] at h
          simp only [if_neg c2, if_pos (show (encL s (l.take i)).length < 140737488355328 by omega)]
          exact h
    refine Ev.step (fun k => ?_) j1
    rw [pct_Encode.l0, if_pos (by omega), if_pos (by omega), if_pos (by omega), rd_at l i hlt]
    by_cases c : s = 8
    · rw [if_pos c]
      congr 1
      by_cases c2 : l[i] = 32
      · rw [decide_eq_true ⟨c, c2⟩]; exact beq_iff_eq.mpr c2
      · rw [decide_eq_false (fun h => c2 h.2)]; exact beq_eq_false_iff_ne.mpr c2
    · rw [if_neg c, decide_eq_false (fun h => c h.1)]
theorem enc_ev (s : Int) (l : List Int) (hw : ∀ x ∈ l, 0 ≤ x ∧ x ≤ 255) (hl : l.length ≤ 16000) : Ev (fun k => pct_Encode.f k s l) (strOfNums (encL s l)) := enc_l0 s l hw hl l.length 0 (by omega) 0 rfl
theorem renc_l0 (s : Int) (l : List Int) (hw : ∀ x ∈ l, 0 ≤ x ∧ x ≤ 255) (hl : l.length ≤ 16000) : ∀ (d i : Nat), i + d = l.length → ∀ i' : Int, i' = (i : Int) →
    Ev (fun k => sprref1_Percent.l0 k s l greats (encL s (l.take i)) i') (strOfNums (encL s l)) := by
  intro d
  induction d with
  | zero =>
    intro i hi i' e
    subst e
    refine Ev.step (fun k => ?_) (Ev.now _)
    rw [sprref1_Percent.l0, if_neg (by omega), List.take_of_length_le (by omega)]
  | succ d ih =>
    intro i hi i' e
    subst e
    have hlt : i < l.length := by omega
    have hb := hw l[i] (List.getElem_mem hlt)
    have h15 := and15_bd hb.1 hb.2
    have hlen := (encL_length s (l.take i)).2
    rw [List.length_take] at hlen
    have hsz : (greats.size : Int) = 16 := rfl
    have h := ih (i + 1) (by omega) (wrap64 (i + 1)) (by rw [wrap_small (by omega) (by omega)]; omega)
    rw [← take_encL s l i hlt] at h
    have j1 : Ev (fun k => sprref1_Percent.j1 k s l greats (encL s (l.take i)) (i : Int) (decide (s = 8 ∧ l[i] = 32))) (strOfNums (encL s l)) := by
      by_cases c1 : s = 8 ∧ l[i] = 32
      · rw [decide_eq_true c1]
        rw [enc1, if_pos c1] at h
        refine Ev.step (fun k => ?_) h
        rw [sprref1_Percent.j1, if_pos rfl, if_pos (by omega)]
      · rw [decide_eq_false c1]
        rw [enc1, if_neg c1] at h
        refine Ev.step (f := fun k => _) (fun k => by rw [sprref1_Percent.j1, if_neg (by decide), if_pos (by omega), if_pos (by omega), rd_at l i hlt]) ?_
        refine Ev.bind (rin_ev s l[i] hb.1 hb.2) ?_
        by_cases c2 : inS s l[i] = true
        · rw [if_pos c2] at h
          simp only [hsz, if_pos c2, if_pos (show 0 ≤ l[i] / 16 by omega), if_pos (show l[i] / 16 < 16 by omega), if_pos h15.1, if_pos h15.2, Option.bind_some]
          simp only [List.length_cons, List.length_nil, if_pos (show (encL s (l.take i)).length + (0 + 1 + 1 + 1) < 140737488355328 by omega)]
          exact h
        · rw [if_neg c2] at h
          simp only [if_neg c2, if_pos (show (encL s (l.take i)).length < 140737488355328 by omega)]
          exact h
    refine Ev.step (fun k => ?_) j1
    rw [sprref1_Percent.l0, if_pos (by omega)]
    by_cases c : s = 8
    · rw [if_pos c, if_pos (by omega), rd_at l i hlt]
      congr 1
      by_cases c2 : l[i] = 32
      · rw [decide_eq_true ⟨c, c2⟩]; exact beq_iff_eq.mpr c2
      · rw [decide_eq_false (fun h => c2 h.2)]; exact beq_eq_false_iff_ne.mpr c2
    · rw [if_neg c, decide_eq_false (fun h => c h.1)]
theorem renc_ev (s : Int) (l : List Int) (hw : ∀ x ∈ l, 0 ≤ x ∧ x ≤ 255) (hl : l.length ≤ 16000) : Ev (fun k => sprref1_Percent.f k s l) (strOfNums (encL s l)) := renc_l0 s l hw hl l.length 0 (by omega) 0 rfl
/-! ### Decode -/
def decL : List Int → List Int
  | x :: a :: b :: r => if x = 37 ∧ 0 ≤ dig a ∧ 0 ≤ dig b then comb (dig a) (dig b) :: decL r else x :: decL (a :: b :: r)
  | x :: r => x :: decL r
  | [] => []
theorem decL_ne (x : Int) (r : List Int) (h : x ≠ 37) : decL (x :: r) = x :: decL r := by
  match r with
  | [] => rfl
  | [_] => rfl
  | a :: b :: r => rw [decL, if_neg (fun k => h k.1)]
theorem decL_short (x : Int) (r : List Int) (h : r.length < 2) : decL (x :: r) = x :: decL r := by
  match r, h with
  | [], _ => rfl
  | [_], _ => rfl
  | _ :: _ :: _, h => simp only [List.length_cons] at h; omega
theorem decL_code (x : Int) (h0 : 0 ≤ x) (h1 : x ≤ 255) (r : List Int) : decL (code x ++ r) = x :: decL r := by
  have f := at_byte (P := fun x => dig (bt greats (x / 16)) = x / 16 ∧ dig (bt greats (Go.bits .and .u8 x 15)) = x % 16 ∧ comb (x / 16) (x % 16) = x ∧ 0 ≤ Go.bits .and .u8 x 15 ∧ Go.bits .and .u8 x 15 < 16) byte_facts h0 h1
  simp only [code, List.cons_append, List.nil_append]
  rw [decL, f.1, f.2.1, if_pos ⟨rfl, by omega, by omega⟩, f.2.2.1]
theorem drop_three (cs : List Int) (i : Nat) (h : i + 2 < cs.length) : cs.drop i = cs[i] :: cs[i + 1] :: cs[i + 2] :: cs.drop (i + 3) := by
  rw [List.drop_eq_getElem_cons (by omega), List.drop_eq_getElem_cons (by omega), List.drop_eq_getElem_cons h]
theorem dec_l0 (s : ByteArray) (hs : s.size ≤ 100000) : ∀ (d i : Nat) (o : List Int), i + d = s.size → o.length ≤ i → ∀ i' : Int, i' = (i : Int) →
    Ev (fun k => pct_Decode.l0 k s o i') (o ++ decL ((bytesOf s).drop i)) := by
  have hl := bytesOf_length s
  have hbd := bytesOf_bd s
  intro d
  induction d using Nat.strongRecOn with
  | _ d ih =>
  intro i o hi ho i' e
  subst e
  by_cases hd : d = 0
  · refine Ev.step (fun k => ?_) (Ev.now _)
    rw [pct_Decode.l0, if_neg (by omega), List.drop_eq_nil_of_le (by omega)]
    simp [decL]
  have e1 : wrap64 ((i : Int) + 1) = ((i + 1 : Nat) : Int) := by rw [wrap_small (by omega) (by omega)]; omega
  have e2 : wrap64 ((i : Int) + 2) = ((i + 2 : Nat) : Int) := by rw [wrap_small (by omega) (by omega)]; omega
  have hlt : i < (bytesOf s).length := by omega
  have b0 := bt_at' s i hlt
  have plain : ∀ (h : decL ((bytesOf s).drop i) = (bytesOf s)[i] :: decL ((bytesOf s).drop (i + 1))), Ev (fun k => pct_Decode.l0 k s (o ++ [bt s (i : Int)]) (wrap64 ((i : Int) + 1))) (o ++ decL ((bytesOf s).drop i)) := by
    intro h
    have := ih (d - 1) (by omega) (i + 1) (o ++ [(bytesOf s)[i]]) (by omega) (by simp; omega) (wrap64 ((i : Int) + 1)) (by rw [wrap_small (by omega) (by omega)]; omega)
    rw [List.append_assoc, List.singleton_append, ← h] at this
    rw [b0]
    exact this
  have no : ∀ (h : decL ((bytesOf s).drop i) = (bytesOf s)[i] :: decL ((bytesOf s).drop (i + 1))), Ev (fun k => pct_Decode.j1 k s o (i : Int) false) (o ++ decL ((bytesOf s).drop i)) := by
    intro h
    refine Ev.step (fun k => ?_) (plain h)
    rw [pct_Decode.j1, if_neg (by decide), if_pos (by omega), if_pos (by omega), if_pos (by omega)]
  by_cases c1 : bt s (i : Int) = 37
  case neg =>
    refine Ev.step (fun k => ?_) (no ?_)
    · rw [pct_Decode.l0, if_pos (by omega), if_pos (by omega), if_neg c1]
    · rw [List.drop_eq_getElem_cons hlt, decL_ne _ _ (by rw [← b0]; exact c1)]
  have e0 : wrap64 ((s.size : Int) - (i : Int)) = (s.size : Int) - (i : Int) := wrap_small (by omega) (by omega)
  by_cases c2 : (s.size : Int) - (i : Int) > 2
  case neg =>
    refine Ev.step (fun k => ?_) (no ?_)
    · rw [pct_Decode.l0, if_pos (by omega), if_pos (by omega), if_pos c1, e0, decide_eq_false c2]
    · rw [List.drop_eq_getElem_cons hlt, decL_short _ _ (by rw [List.length_drop]; omega)]
  have b1 := bt_at' s (i + 1) (by omega)
  have b2 := bt_at' s (i + 2) (by omega)
  have r1 := hbd ((bytesOf s)[i + 1]'(by omega)) (List.getElem_mem _)
  have r2 := hbd ((bytesOf s)[i + 2]'(by omega)) (List.getElem_mem _)
  have d3 := drop_three (bytesOf s) i (by omega)
  have un : ∀ k, pct_Decode.j1 (k + 1) s o (i : Int) true = if dig ((bytesOf s)[i + 1]'(by omega)) ≥ 0 then (if dig ((bytesOf s)[i + 2]'(by omega)) ≥ 0 then pct_Decode.l0 k s (o ++ [comb (dig ((bytesOf s)[i + 1]'(by omega))) (dig ((bytesOf s)[i + 2]'(by omega)))]) (wrap64 (((i + 2 : Nat) : Int) + 1)) else pct_Decode.l0 k s (o ++ [bt s (i : Int)]) (wrap64 ((i : Int) + 1))) else pct_Decode.l0 k s (o ++ [bt s (i : Int)]) (wrap64 ((i : Int) + 1)) := by
    intro k
    rw [pct_Decode.j1, if_pos rfl, e1, if_pos (by omega), if_pos (by omega), b1, digit_eq _ r1.1 r1.2, Option.bind_some, e2, if_pos (by omega), if_pos (by omega), b2, digit_eq _ r2.1 r2.2, Option.bind_some]
    simp only [if_pos (show o.length < 140737488355328 by omega), if_pos (show (0 : Int) ≤ (i : Int) by omega), if_pos (show (i : Int) < (s.size : Int) by omega)]
    rfl
  refine Ev.step (f := fun k => pct_Decode.j1 k s o (i : Int) true) (fun k => by rw [pct_Decode.l0, if_pos (by omega), if_pos (by omega), if_pos c1, e0, decide_eq_true c2]) ?_
  rw [b0] at c1
  by_cases c3 : 0 ≤ dig ((bytesOf s)[i + 1]'(by omega)) ∧ 0 ≤ dig ((bytesOf s)[i + 2]'(by omega))
  · refine Ev.step (fun k => by rw [un, if_pos c3.1, if_pos c3.2]) ?_
    have h := ih (d - 3) (by omega) (i + 3) (o ++ [comb (dig ((bytesOf s)[i + 1]'(by omega))) (dig ((bytesOf s)[i + 2]'(by omega)))]) (by omega) (by simp; omega) (wrap64 (((i + 2 : Nat) : Int) + 1)) (by rw [wrap_small (by omega) (by omega)]; omega)
    rw [d3, decL, if_pos ⟨c1, c3.1, c3.2⟩]
    rw [List.append_assoc, List.singleton_append] at h
    exact h
  · have hdec : decL ((bytesOf s).drop i) = (bytesOf s)[i] :: decL ((bytesOf s).drop (i + 1)) := by
      rw [d3, decL, if_neg (fun h => c3 h.2), List.drop_eq_getElem_cons (show i + 1 < (bytesOf s).length by omega), List.drop_eq_getElem_cons (show i + 1 + 1 < (bytesOf s).length by omega)]
    refine Ev.step (fun k => ?_) (plain hdec)
    rw [un]
    by_cases c4 : dig ((bytesOf s)[i + 1]'(by omega)) ≥ 0
    · rw [if_pos c4, if_neg (fun h => c3 ⟨c4, h⟩)]
    · rw [if_neg c4]
theorem dec_ev (s : ByteArray) (hs : s.size ≤ 100000) : Ev (fun k => pct_Decode.f k s) (decL (bytesOf s)) := by
  have := dec_l0 s hs s.size 0 [] (by omega) (by simp) 0 rfl
  rwa [List.nil_append, List.drop_zero] at this

end Go.Proofs.Ytfidpocajehelaa.Pure
