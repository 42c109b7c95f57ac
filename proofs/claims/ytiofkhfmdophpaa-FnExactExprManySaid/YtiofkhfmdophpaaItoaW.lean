/- strconv.Itoa of -10^6 .. 10^6, whatever the table of powers holds: it ends with some text. -/
import Derived.Test.YtiofkhfmdophpaaFmtW
import Derived.Test.YtiofkhfmdophpaaNumDig
import Derived.Lib.Walk
import Derived.Lib.ItoaMem
import Derived.WalkKit
import Derived.BigCall
import Derived.BigGuard
namespace Go.Proofs.Ytiofkhfmdophpaa.B
open Go Go.Shelf Go.RowKit Go.Sort Go.Lib Go.Proofs.YtiofkhfmdophpaaW.PrintWords
set_option linter.unusedVariables false

set_option maxHeartbeats 6400000 in
set_option maxRecDepth 100000 in
theorem formatInt_neg (u : Nat) (hu1 : 1 ≤ u) (hu : u ≤ 1000000) (w : World) (HT : TabW w) :
  Calls Try.prog 159 #[.int .i64 (-(u : Int)), .int .i64 10] w fun e w' => (∃ s, e = .returned (.string s) ∧ s.size ≤ 100) ∧ ∃ k os, w' = grow (w.drewN k) os := by
 have mixed : Try.prog.follows .mixedOrders = true := rfl
 have hwr : IntKind.u64.wrap (-IntKind.u64.wrap (-(u : Int))) = (u : Int) := by rw [IntKind.wrap_u64, IntKind.wrap_u64]; omega
 have hu0 : 1 ≤ u := by omega
 have HT1 := Aside0.mk (HT.alloc (.cells Lib.zeros24 161))
 clear HT
 go_enter Try.func159, Try.ntmps159
 go_wp2_with fail
 go_at_call 161
 refine (numDigits_w u hu0 hu _ HT1.out).mono ?_
 rintro e w' ⟨⟨nd, rfl, h7⟩, rfl⟩
 have hal : Try.prog.arrayLen 161 = 24 := rfl
 have hsl1 : ∀ W, (Instr.sliceAt 161 (.pointer (some ⟨w.heap.size, 0, none⟩)) (some (.int .i64 1)) (some (.int .i64 (1 + (nd : Int)))) none).run Try.prog W = .ok (.slice (some ⟨w.heap.size, 1, none⟩) nd 23) W := fun W => by
  rw [run_sliceAt_array_lh W 161 ⟨w.heap.size, 0, none⟩ rfl .i64 .i64 1 (1 + (nd : Int)) (by omega) (by omega) (by rw [hal]; omega)]
  go_simp
  omega
 have hH0 := Lib.holds_zero w 161 nd (by omega)
 have HF := Aside0.mk (fmt_w w.heap.size 1 23 u (Array.replicate nd 0) (w.alloc (.cells Lib.zeros24 161)) (Aside0.mk hH0) hu (by simpa using h7))
 have HH0 := Aside0.mk hH0
 clear hH0 hal
 go_wp2_with fail
 have hfmt := HF.out
 rw [Array.size_replicate] at hfmt
 go_at_call 162
 refine hfmt.mono ?_
 rintro e w' ⟨rfl, k, dk, rfl, hF⟩
 clear hsl1 hfmt
 have hc0 : ((putRow (fun (b : UInt8) => Value.int .u8 (b.toNat : Int)) (w.alloc (.cells Lib.zeros24 161)) w.heap.size 1 dk).drewN k).cell? ⟨w.heap.size, 0, none⟩ = some (.int .u8 0) := by
  rw [World.cell?_drewN, cell?_putRow_other _ _ _ _ _ _ (Or.inr (Or.inl (Nat.zero_lt_one))), World.cell?_alloc_new]
  exact Lib.zeros24_at 0 (by omega)
 have hf0 : ((putRow (fun (b : UInt8) => Value.int .u8 (b.toNat : Int)) (w.alloc (.cells Lib.zeros24 161)) w.heap.size 1 dk).drewN k).frozen? ⟨w.heap.size, 0, none⟩ = false := by
  rw [World.frozen?_drewN, frozen?_putRow]
  exact World.frozen?_alloc_new _ _ _ _
 have hal : Try.prog.arrayLen 161 = 24 := rfl
 have hsl2 : ∀ W, (Instr.sliceAt 161 (.pointer (some ⟨w.heap.size, 0, none⟩)) none (some (.int .i64 (1 + (nd : Int)))) none).run Try.prog W = .ok (.slice (some ⟨w.heap.size, 0, none⟩) (1 + nd) 24) W := fun W => by
  rw [run_sliceAt_array_h W 161 ⟨w.heap.size, 0, none⟩ rfl .i64 (1 + (nd : Int)) (by omega) (by rw [hal]; omega)]
  go_simp
  omega
 clear hal
 have hcv : (convert 52 9 (.slice (some ⟨w.heap.size, 0, none⟩) (1 + nd) 24)).run Try.prog (((putRow (fun (b : UInt8) => Value.int .u8 (b.toNat : Int)) (w.alloc (.cells Lib.zeros24 161)) w.heap.size 1 dk).drewN k).setCell ⟨w.heap.size, 0, none⟩ (.int .u8 45)) = .ok (.string ⟨(45 :: dk.toList).toArray⟩) (((putRow (fun (b : UInt8) => Value.int .u8 (b.toNat : Int)) (w.alloc (.cells Lib.zeros24 161)) w.heap.size 1 dk).drewN k).setCell ⟨w.heap.size, 0, none⟩ (.int .u8 45)) := by
  have h := run_convert_bytes_back (P := Try.prog) (((putRow (fun (b : UInt8) => Value.int .u8 (b.toNat : Int)) (w.alloc (.cells Lib.zeros24 161)) w.heap.size 1 dk).drewN k).setCell ⟨w.heap.size, 0, none⟩ (.int .u8 45)) 52 9 5 ⟨w.heap.size, 0, none⟩ 24 (45 :: dk.toList) rfl rfl rfl (fun j hj => by
   rw [Lib.add_plain]
   cases j with
   | zero => exact World.cell?_setCell_same _ _ _ hc0
   | succ i =>
    have hi : i < dk.size := by simpa using hj
    rw [World.cell?_setCell_other _ _ _ _ (by simp), List.getElem_cons_succ, World.cell?_drewN, show 0 + (i + 1) = 1 + i by omega, Array.getElem_toList, ← getElem!_pos dk i hi]
    exact cell?_putRow (fun (b : UInt8) => Value.int .u8 (b.toNat : Int)) _ w.heap.size 1 _ dk HH0.out (by rw [hF, Array.size_replicate]) i hi)
  rw [List.length_cons, Array.length_toList, hF, Nat.add_comm] at h
  exact h
 go_wp2_with fail
 go_ret
 obtain ⟨os, eo⟩ := Lib.fin_neg w (.cells Lib.zeros24 161) dk k (.int .u8 45)
 exact ⟨⟨_, rfl, by simp [ByteArray.size, hF]; omega⟩, k, os, eo⟩

set_option maxHeartbeats 6400000 in
set_option maxRecDepth 100000 in
theorem formatInt_pos (u : Nat) (hu1 : 100 ≤ u) (hu : u ≤ 1000000) (w : World) (HT : TabW w) :
  Calls Try.prog 159 #[.int .i64 ((u : Int)), .int .i64 10] w fun e w' => (∃ s, e = .returned (.string s) ∧ s.size ≤ 100) ∧ ∃ k os, w' = grow (w.drewN k) os := by
 have mixed : Try.prog.follows .mixedOrders = true := rfl
 have hu0 : 1 ≤ u := by omega
 have HT1 := Aside0.mk (HT.alloc (.cells Lib.zeros24 161))
 clear HT
 go_enter Try.func159, Try.ntmps159
 go_wp2_with fail
 go_at_call 161
 refine (numDigits_w u hu0 hu _ HT1.out).mono ?_
 rintro e w' ⟨⟨nd, rfl, h7⟩, rfl⟩
 have hal : Try.prog.arrayLen 161 = 24 := rfl
 have hsl1 : ∀ W, (Instr.sliceAt 161 (.pointer (some ⟨w.heap.size, 0, none⟩)) (some (.int .i64 1)) (some (.int .i64 (1 + (nd : Int)))) none).run Try.prog W = .ok (.slice (some ⟨w.heap.size, 1, none⟩) nd 23) W := fun W => by
  rw [run_sliceAt_array_lh W 161 ⟨w.heap.size, 0, none⟩ rfl .i64 .i64 1 (1 + (nd : Int)) (by omega) (by omega) (by rw [hal]; omega)]
  go_simp
  omega
 have hH0 := Lib.holds_zero w 161 nd (by omega)
 have HF := Aside0.mk (fmt_w w.heap.size 1 23 u (Array.replicate nd 0) (w.alloc (.cells Lib.zeros24 161)) (Aside0.mk hH0) hu (by simpa using h7))
 have HH0 := Aside0.mk hH0
 clear hH0 hal
 go_wp2_with fail
 have hfmt := HF.out
 rw [Array.size_replicate] at hfmt
 go_at_call 162
 refine hfmt.mono ?_
 rintro e w' ⟨rfl, k, dk, rfl, hF⟩
 clear hsl1 hfmt
 have hal : Try.prog.arrayLen 161 = 24 := rfl
 have hsl2 : ∀ W, (Instr.sliceAt 161 (.pointer (some ⟨w.heap.size, 0, none⟩)) (some (.int .i64 1)) (some (.int .i64 (1 + (nd : Int)))) none).run Try.prog W = .ok (.slice (some ⟨w.heap.size, 1, none⟩) nd 23) W := fun W => by
  rw [run_sliceAt_array_lh W 161 ⟨w.heap.size, 0, none⟩ rfl .i64 .i64 1 (1 + (nd : Int)) (by omega) (by omega) (by rw [hal]; omega)]
  go_simp
  omega
 clear hal
 have hcv : (convert 52 9 (.slice (some ⟨w.heap.size, 1, none⟩) nd 23)).run Try.prog ((putRow (fun (b : UInt8) => Value.int .u8 (b.toNat : Int)) (w.alloc (.cells Lib.zeros24 161)) w.heap.size 1 dk).drewN k) = .ok (.string ⟨dk.toList.toArray⟩) ((putRow (fun (b : UInt8) => Value.int .u8 (b.toNat : Int)) (w.alloc (.cells Lib.zeros24 161)) w.heap.size 1 dk).drewN k) := by
  have h := run_convert_bytes_back (P := Try.prog) ((putRow (fun (b : UInt8) => Value.int .u8 (b.toNat : Int)) (w.alloc (.cells Lib.zeros24 161)) w.heap.size 1 dk).drewN k) 52 9 5 ⟨w.heap.size, 1, none⟩ 23 dk.toList rfl rfl rfl (fun j hj => by
   have hi : j < dk.size := by simpa using hj
   rw [Lib.add_plain, World.cell?_drewN, Array.getElem_toList, ← getElem!_pos dk j hi]
   exact cell?_putRow (fun (b : UInt8) => Value.int .u8 (b.toNat : Int)) _ w.heap.size 1 _ dk HH0.out (by rw [hF, Array.size_replicate]) j hi)
  rw [Array.length_toList, hF] at h
  exact h
 go_wp2_with fail
 go_ret
 obtain ⟨os, eo⟩ := Lib.fin_pos w (.cells Lib.zeros24 161) dk k
 exact ⟨⟨_, rfl, by simp [ByteArray.size, hF]; omega⟩, k, os, eo⟩

set_option maxRecDepth 100000 in
theorem formatInt_w (n : Int) (h0 : -1000000 ≤ n) (h1 : n ≤ 1000000) (w : World) (HT : TabW w) :
  Calls Try.prog 159 #[.int .i64 n, .int .i64 10] w fun e w' => (∃ s, e = .returned (.string s) ∧ s.size ≤ 100) ∧ ∃ k os, w' = grow (w.drewN k) os := by
 by_cases hn : n < 0
 ·obtain ⟨u, rfl⟩ : ∃ u : Nat, n = -(u : Int) := ⟨n.natAbs, by omega⟩
  exact formatInt_neg u (by omega) (by omega) w HT
 ·obtain ⟨u, rfl⟩ : ∃ u : Nat, n = u := ⟨n.toNat, by omega⟩
  by_cases hs : u < 100
  ·have mixed : Try.prog.follows .mixedOrders = true := rfl
   clear HT
   go_enter Try.func159, Try.ntmps159
   go_wp2_with (go_at_call 160; refine (Try.internal_strconv_small u hs _).mono ?_; rintro e w' ⟨rfl, rfl⟩)
   go_ret
   exact ⟨⟨_, rfl, by have := (by decide +kernel : ∀ i : Fin 100, (Lib.decDigits i.val).length ≤ 2) ⟨u, hs⟩; simp only [ByteArray.size, List.size_toArray]; simp only at this; omega⟩, 0, #[], by simp [World.drewN_zero]⟩
  ·exact formatInt_pos u (by omega) (by omega) w HT

set_option maxRecDepth 100000 in
theorem itoa1_w (n : Int) (h0 : -1000000 ≤ n) (h1 : n ≤ 1000000) (w : World) (HT : TabW w) :
  Calls Try.prog 158 #[.int .i64 n] w fun e w' => (∃ s, e = .returned (.string s) ∧ s.size ≤ 100) ∧ ∃ k os, w' = grow (w.drewN k) os := by
 have mixed : Try.prog.follows .mixedOrders = true := rfl
 go_enter Try.func158, Try.ntmps158
 go_wp2_with (go_at_call 159; refine (formatInt_w n h0 h1 _ HT).mono ?_; rintro e w' ⟨⟨s, rfl, hs9⟩, k, os, rfl⟩)
 go_ret
 exact ⟨⟨s, rfl, hs9⟩, k, os, rfl⟩

set_option maxRecDepth 100000 in
/-- strconv.Itoa: some text; the world grows. -/
theorem itoa_w (n : Int) (h0 : -1000000 ≤ n) (h1 : n ≤ 1000000) (w : World) (HT : TabW w) :
  Calls Try.prog 157 #[.int .i64 n] w fun e w' => (∃ s, e = .returned (.string s) ∧ s.size ≤ 100) ∧ ∃ k os, w' = grow (w.drewN k) os := by
 have mixed : Try.prog.follows .mixedOrders = true := rfl
 go_enter Try.func157, Try.ntmps157
 go_wp2_with (go_at_call 158; refine (itoa1_w n h0 h1 _ HT).mono ?_; rintro e w' ⟨⟨s, rfl, hs9⟩, k, os, rfl⟩)
 go_ret
 exact ⟨⟨s, rfl, hs9⟩, k, os, rfl⟩
end Go.Proofs.Ytiofkhfmdophpaa.B
