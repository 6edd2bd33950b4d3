/- The library's slices.Grow at this program, called with the nil slice: it hands back an empty row of the call's own. Conditions: the number is from 0 to 2^44. -/
import Derived.Test.YtodncacbadjgnaaProg
import Derived.Below
import Derived.WalkKit
import Derived.Lib.Walk
import Derived.Lib.SliceRun
import Derived.Lib.AppendZerosOnto
import Derived.OwnWalk
import Derived.KernelRfl
import Derived.Test.YtodncacbadjgnaaWWords
namespace Go.Proofs
open Go.RowKit Go.Proofs.YtodncacbadjgnaaW.PrintWords
set_option linter.unusedVariables false
set_option linter.unusedSimpArgs false
theorem Try.grow_info : (Try.prog.info? 3).map (fun i => (i.zero, i.size, i.bytes)) = some (some (.int .i64 0), 1, 8) := by kernel_rfl
theorem Try.grow_R (w : World) (C : Array Value) (cap : Nat) (hC : C.size = cap) (hm : cap ≤ maxLen) :
    Kd.R (Kd.int .i64) 3 (w.drew.alloc (.cells C 3)) w.heap.size (fun _ => True) (.slice (some ⟨w.heap.size, 0, none⟩) 0 cap) [] := by
  refine ⟨fun _ _ => trivial, [], ⟨rfl, .inr ⟨w.heap.size, cap, C, rfl, Nat.le_refl _, ?_, Nat.zero_le _, hm, ?_, by simp⟩⟩, by simp, fun j p h => by simp at h⟩
  · show (w.heap.push (.cells C 3))[w.heap.size]? = _
    simp
  · rw [hC]; show cap = cap * 1; omega
set_option maxHeartbeats 4000000 in
set_option maxRecDepth 100000 in
theorem Try.grow_nil (n : Int) (h1 : 0 ≤ n) (h2 : n ≤ 17592186044416) (w : World) :
    Calls Try.prog 27 #[.slice none 0 0, .int .i64 n] w fun e w' => ∃ v0_ : Value, e = .returned v0_ ∧ Kd.R (Kd.int .i64) 3 w' w.heap.size (fun _ => True) v0_ [] ∧ Below w.heap.size w w' := by
  obtain ⟨m, rfl⟩ := Int.eq_ofNat_of_zero_le h1
  by_cases hz : m = 0
  · subst hz
    go_enter Try.func27, Try.ntmps27
    go_wp2
    go_ret
    exact ⟨_, rfl, Kd.R_nil _ _ _ _ _, Below.refl _ _⟩
  have hm : 0 < m := by omega
  have hm2 : m ≤ 17592186044416 := by omega
  clear h1 h2 hz
  obtain ⟨i0, hi, hzz⟩ := Option.map_eq_some_iff.1 Try.grow_info
  simp only [Prod.mk.injEq] at hzz
  obtain ⟨hz0, hs1, hb8⟩ := hzz
  have hold : (Builtin.firstCells i0.size 0 (.slice none 0 0)).run Try.prog w.drew = .ok ([] : List Value).toArray w.drew := run_firstCells_none w.drew i0.size 0 0 0
  have hrz : ∀ ty, (Builtin.append_ #[25, 3] ty #[.slice none 0 0, .int .i64 (m : Int)]).run Try.prog w =
      .ok (.slice (some ⟨w.heap.size, 0, none⟩) (0 + m) (grownCap w (0 + m) 0 3)) (w.drew.alloc (.cells (([] : List Value).toArray ++ Builtin.zeroCells (Value.int .i64 0).cells m ++ Builtin.zeroCells (Value.int .i64 0).cells (grownCap w (0 + m) 0 3 - (0 + m))) 3)) := fun ty =>
    Lib.run_append_grow_zeros w 25 3 ty 3 i0 (.int .i64 0) .i64 .i64 Try.underlying25 Try.underlying3 hi hz0 none 0 0 [] hold m hm (by omega) (by omega) (by omega) (by rw [hb8]; omega) (growslice_fits (by omega) (by rw [hb8]; omega))
  have hG := grownCap_ge w (0 + m) 0 3
  have hG2 := grownCap_le_maxLen w (0 + m) 0 3 (by unfold maxLen; omega)
  obtain ⟨G, eG⟩ : ∃ G, G = grownCap w (0 + m) 0 3 := ⟨_, rfl⟩
  rw [← eG] at hrz hG hG2
  clear eG hold
  have hsize : (([] : List Value).toArray ++ Builtin.zeroCells (Value.int .i64 0).cells m ++ Builtin.zeroCells (Value.int .i64 0).cells (G - (0 + m))).size = G := by
    simp only [Array.size_append, size_zeroCells, show (Value.int .i64 0).cells.size = 1 from rfl, List.size_toArray, List.length_nil]
    omega
  have hR := Try.grow_R w _ G hsize hG2
  have HR := Aside0.mk hR
  clear hR hsize
  obtain ⟨C, eC⟩ : ∃ C, C = (([] : List Value).toArray ++ Builtin.zeroCells (Value.int .i64 0).cells m ++ Builtin.zeroCells (Value.int .i64 0).cells (G - (0 + m))) := ⟨_, rfl⟩
  rw [← eC] at HR hrz
  clear eC
  have hG63 : G ≤ 9223372036854775807 := by unfold maxLen at hG2; omega
  clear hG2
  rw [Nat.zero_add] at hG hrz
  go_enter Try.func27, Try.ntmps27
  go_wp2_with (at_builtin; refine Lib.wpList_append_run _ rfl _ _ _ _ rfl _ _ rfl rfl _ _ (hrz _) ?_)
  all_goals (go_ret; exact ⟨_, rfl, HR.out, below_drew ((Below.refl _ _).alloc (Nat.le_refl _) _)⟩)
end Go.Proofs
