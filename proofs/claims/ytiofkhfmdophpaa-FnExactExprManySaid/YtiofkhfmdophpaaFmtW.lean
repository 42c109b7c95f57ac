/- internal/strconv.formatBase10 of at most seven places, whatever the number: it ends, and writes into its row alone. -/
import Derived.Test.YtiofkhfmdophpaaB0
import Derived.Shelf.RegionOpenPlain
import Derived.Lib.Walk
import Derived.Lib.ItoaWalk
import Derived.WalkKit
import Derived.RegionTactic
import Derived.BigCall
import Derived.BigGuard
import Derived.CellFam
namespace Go.Proofs.Ytiofkhfmdophpaa.B
open Go Go.Shelf Go.RowKit Go.Sort Go.Lib Go.Proofs.YtiofkhfmdophpaaW.PrintWords
set_option linter.unusedVariables false
set_option maxHeartbeats 12800000 in
set_option maxRecDepth 100000 in
theorem fmt_w (blk off cap : Nat) (u : Nat) (d : Array UInt8) (w : World) (HH : Aside0 (Holds (fun (b : UInt8) => Value.int .u8 (b.toNat : Int)) w blk off d)) (hu : u ≤ 1000000) (hd : d.size ≤ 7) :
  Calls Try.prog 162 #[.slice (some ⟨blk, off, none⟩) d.size cap, .int .u64 u] w fun e w' => e = .returned (.tuple #[]) ∧ ∃ (n : Nat) (dk : Array UInt8), w' = (putRow (fun (b : UInt8) => Value.int .u8 (b.toNat : Int)) w blk off dk).drewN n ∧ dk.size = d.size := by
 have mixed : Try.prog.follows .mixedOrders = true := rfl
 obtain ⟨nd, hnd⟩ : ∃ nd, nd = d.size := ⟨_, rfl⟩
 rw [← hnd]
 have HD := Aside0.mk hnd
 have hnd7 : nd ≤ 7 := by omega
 clear hnd hd
 go_enter Try.func162, Try.ntmps162
 go_name_bytes SM hSM
 have eSM : SM = Lib.smalls := by rw [← hSM]; decide +kernel
 subst eSM
 clear hSM
 go_wp2
 go_loopw [1, 4] (fun vu vn wr => vu = .int .u64 (u : Int) ∧ vn = .int .i64 (nd : Int) ∧ wr = (putRow (fun (b : UInt8) => Value.int .u8 (b.toNat : Int)) w blk off d).drewN 0) (fun _ _ _ => 0)
 case atStart => exact ⟨rfl, rfl, by rw [putRow_self _ _ _ _ _ HH.out]; rfl⟩
 case round =>
  obtain ⟨rfl, rfl, hw0⟩ := hrel
  rename World => W0
  have AW0 := Aside0.mk hw0
  clear hw0
  obtain ⟨dk0, hdk⟩ : ∃ dk, dk = d := ⟨_, rfl⟩
  have HS0 := Aside0.mk (show dk0.size = nd from by rw [hdk]; exact HD.out.symm)
  rw [← hdk] at AW0
  clear hdk
  obtain ⟨n0, hn0⟩ : ∃ n, n = 0 := ⟨_, rfl⟩
  rw [← hn0] at AW0
  clear hn0
  have hc8 : nd = 0 ∨ nd = 1 ∨ nd = 2 ∨ nd = 3 ∨ nd = 4 ∨ nd = 5 ∨ nd = 6 ∨ nd = 7 := by omega
  clear hnd7
  rcases hc8 with rfl | rfl | rfl | rfl | rfl | rfl | rfl | rfl
  ·-- 0 places
   go_wp2
   go_end0
   exact ⟨rfl, n0, dk0, AW0.out, HS0.out⟩
  ·-- 1 places
   have hz0 : Holds (fun (b : UInt8) => Value.int .u8 (b.toNat : Int)) W0 blk off dk0 := by rw [AW0.out]; exact holds_putRow _ w blk off d dk0 HH.out (HS0.out.trans HD.out)
   have cz : W0.cell? ⟨blk, off, none⟩ = some (.int .u8 (dk0[0]!.toNat : Int)) := (hz0 0 (by rw [HS0.out]; omega)).1
   have fz : W0.frozen? ⟨blk, off, none⟩ = false := (hz0 0 (by rw [HS0.out]; omega)).2
   generalize (dk0[0]!.toNat : Int) = yz at cz
   clear hz0
   go_wp2
   go_end0
   exact ⟨rfl, _, _, by rw [AW0.out]; exact store1_world0 w blk off dk0 n0 _ u (by omega) (by rw [HS0.out]; omega), by simp [HS0.out]⟩
  ·-- 2 places
   go_wp2
   have hH0 : Holds (fun (b : UInt8) => Value.int .u8 (b.toNat : Int)) W0 blk off dk0 := by rw [AW0.out]; exact holds_putRow _ w blk off d dk0 HH.out (HS0.out.trans HD.out)
   have c0a : W0.cell? ⟨blk, off + 1, none⟩ = some (.int .u8 (dk0[1]!.toNat : Int)) := (hH0 1 (by rw [HS0.out]; omega)).1
   have c0b : W0.cell? ⟨blk, off, none⟩ = some (.int .u8 (dk0[0]!.toNat : Int)) := (hH0 0 (by rw [HS0.out]; omega)).1
   have f0a : W0.frozen? ⟨blk, off + 1, none⟩ = false := (hH0 1 (by rw [HS0.out]; omega)).2
   have f0b : W0.frozen? ⟨blk, off, none⟩ = false := (hH0 0 (by rw [HS0.out]; omega)).2
   generalize (dk0[1]!.toNat : Int) = y0a at c0a
   generalize (dk0[0]!.toNat : Int) = y0b at c0b
   go_name_slot 16 x0 hx0
   have hlo0 : 0 ≤ x0 := by omega
   have hhi0 : x0 ≤ 198 := by omega
   have hXa0 : ∀ w, (Instr.index 9 (.string Lib.smalls) (.int .u32 (x0 + 1))).run Try.prog w = .ok (.int .u8 ((sm (x0 + 1).toNat).toNat : Int)) w := idx_smalls 9 Try.underlying9 .u32 _ _ (by omega) (by omega)
   have hXb0 : ∀ w, (Instr.index 9 (.string Lib.smalls) (.int .u32 x0)).run Try.prog w = .ok (.int .u8 ((sm x0.toNat).toNat : Int)) w := idx_smalls 9 Try.underlying9 .u32 _ _ (by omega) (by omega)
   clear hx0 hH0
   go_region_o
   go_wp2
   go_end0
   exact ⟨rfl, _, _, by rw [AW0.out]; exact store2_world w blk off dk0 n0 1 0 _ _ (by rw [HS0.out]; omega) (by rw [HS0.out]; omega), by simp [HS0.out]⟩
  ·-- 3 places
   go_wp2
   have hz0 : Holds (fun (b : UInt8) => Value.int .u8 (b.toNat : Int)) W0 blk off dk0 := by rw [AW0.out]; exact holds_putRow _ w blk off d dk0 HH.out (HS0.out.trans HD.out)
   have cz : W0.cell? ⟨blk, off, none⟩ = some (.int .u8 (dk0[0]!.toNat : Int)) := (hz0 0 (by rw [HS0.out]; omega)).1
   have fz : W0.frozen? ⟨blk, off, none⟩ = false := (hz0 0 (by rw [HS0.out]; omega)).2
   generalize (dk0[0]!.toNat : Int) = yz at cz
   clear hz0
   have hH0 : Holds (fun (b : UInt8) => Value.int .u8 (b.toNat : Int)) W0 blk off dk0 := by rw [AW0.out]; exact holds_putRow _ w blk off d dk0 HH.out (HS0.out.trans HD.out)
   have c0a : W0.cell? ⟨blk, off + 2, none⟩ = some (.int .u8 (dk0[2]!.toNat : Int)) := (hH0 2 (by rw [HS0.out]; omega)).1
   have c0b : W0.cell? ⟨blk, off + 1, none⟩ = some (.int .u8 (dk0[1]!.toNat : Int)) := (hH0 1 (by rw [HS0.out]; omega)).1
   have f0a : W0.frozen? ⟨blk, off + 2, none⟩ = false := (hH0 2 (by rw [HS0.out]; omega)).2
   have f0b : W0.frozen? ⟨blk, off + 1, none⟩ = false := (hH0 1 (by rw [HS0.out]; omega)).2
   generalize (dk0[2]!.toNat : Int) = y0a at c0a
   generalize (dk0[1]!.toNat : Int) = y0b at c0b
   go_name_slot 16 x0 hx0
   have hlo0 : 0 ≤ x0 := by omega
   have hhi0 : x0 ≤ 198 := by omega
   have hXa0 : ∀ w, (Instr.index 9 (.string Lib.smalls) (.int .u32 (x0 + 1))).run Try.prog w = .ok (.int .u8 ((sm (x0 + 1).toNat).toNat : Int)) w := idx_smalls 9 Try.underlying9 .u32 _ _ (by omega) (by omega)
   have hXb0 : ∀ w, (Instr.index 9 (.string Lib.smalls) (.int .u32 x0)).run Try.prog w = .ok (.int .u8 ((sm x0.toNat).toNat : Int)) w := idx_smalls 9 Try.underlying9 .u32 _ _ (by omega) (by omega)
   clear hx0 hH0
   go_region_o
   go_wp2
   go_end0
   exact ⟨rfl, _, _, by rw [AW0.out]; exact store21_world w blk off dk0 n0 2 1 _ _ _ (u / 100) (by omega) (by rw [HS0.out]; omega) (by rw [HS0.out]; omega), by simp [HS0.out]⟩
  ·-- 4 places
   go_wp2
   have hH0 : Holds (fun (b : UInt8) => Value.int .u8 (b.toNat : Int)) W0 blk off dk0 := by rw [AW0.out]; exact holds_putRow _ w blk off d dk0 HH.out (HS0.out.trans HD.out)
   have c0a : W0.cell? ⟨blk, off + 3, none⟩ = some (.int .u8 (dk0[3]!.toNat : Int)) := (hH0 3 (by rw [HS0.out]; omega)).1
   have c0b : W0.cell? ⟨blk, off + 2, none⟩ = some (.int .u8 (dk0[2]!.toNat : Int)) := (hH0 2 (by rw [HS0.out]; omega)).1
   have f0a : W0.frozen? ⟨blk, off + 3, none⟩ = false := (hH0 3 (by rw [HS0.out]; omega)).2
   have f0b : W0.frozen? ⟨blk, off + 2, none⟩ = false := (hH0 2 (by rw [HS0.out]; omega)).2
   generalize (dk0[3]!.toNat : Int) = y0a at c0a
   generalize (dk0[2]!.toNat : Int) = y0b at c0b
   go_name_slot 15 x0 hx0
   have hlo0 : 0 ≤ x0 := by omega
   have hhi0 : x0 ≤ 198 := by omega
   have hXa0 : ∀ w, (Instr.index 9 (.string Lib.smalls) (.int .u32 (x0 + 1))).run Try.prog w = .ok (.int .u8 ((sm (x0 + 1).toNat).toNat : Int)) w := idx_smalls 9 Try.underlying9 .u32 _ _ (by omega) (by omega)
   have hXb0 : ∀ w, (Instr.index 9 (.string Lib.smalls) (.int .u32 x0)).run Try.prog w = .ok (.int .u8 ((sm x0.toNat).toNat : Int)) w := idx_smalls 9 Try.underlying9 .u32 _ _ (by omega) (by omega)
   clear hx0 hH0
   go_region_o
   go_wp2
   go_name_world W1 hW1
   have AW1 := Aside0.mk (show W1 = (putRow (fun (b : UInt8) => Value.int .u8 (b.toNat : Int)) w blk off ((dk0.setIfInBounds 3 (sm (x0 + 1).toNat)).setIfInBounds 2 (sm x0.toNat))).drewN (n0 + 1) from by rw [← hW1, AW0.out]; exact store2_world w blk off dk0 n0 3 2 _ _ (by rw [HS0.out]; omega) (by rw [HS0.out]; omega))
   have HS1 := Aside0.mk (show ((dk0.setIfInBounds 3 (sm (x0 + 1).toNat)).setIfInBounds 2 (sm x0.toNat)).size = 4 from by simp [HS0.out])
   generalize ((dk0.setIfInBounds 3 (sm (x0 + 1).toNat)).setIfInBounds 2 (sm x0.toNat)) = dk1 at AW1 HS1
   obtain ⟨n1, hn1⟩ : ∃ n, n = n0 + 1 := ⟨_, rfl⟩
   rw [← hn1] at AW1
   clear hW1 hn1 c0a c0b f0a f0b hXa0 hXb0 hlo0 hhi0 AW0 HS0
   have hH1 : Holds (fun (b : UInt8) => Value.int .u8 (b.toNat : Int)) W1 blk off dk1 := by rw [AW1.out]; exact holds_putRow _ w blk off d dk1 HH.out (HS1.out.trans HD.out)
   have c1a : W1.cell? ⟨blk, off + 1, none⟩ = some (.int .u8 (dk1[1]!.toNat : Int)) := (hH1 1 (by rw [HS1.out]; omega)).1
   have c1b : W1.cell? ⟨blk, off, none⟩ = some (.int .u8 (dk1[0]!.toNat : Int)) := (hH1 0 (by rw [HS1.out]; omega)).1
   have f1a : W1.frozen? ⟨blk, off + 1, none⟩ = false := (hH1 1 (by rw [HS1.out]; omega)).2
   have f1b : W1.frozen? ⟨blk, off, none⟩ = false := (hH1 0 (by rw [HS1.out]; omega)).2
   generalize (dk1[1]!.toNat : Int) = y1a at c1a
   generalize (dk1[0]!.toNat : Int) = y1b at c1b
   go_name_slot 14 x1 hx1
   have hlo1 : 0 ≤ x1 := by omega
   have hhi1 : x1 ≤ 198 := by omega
   have hXa1 : ∀ w, (Instr.index 9 (.string Lib.smalls) (.int .u32 (x1 + 1))).run Try.prog w = .ok (.int .u8 ((sm (x1 + 1).toNat).toNat : Int)) w := idx_smalls 9 Try.underlying9 .u32 _ _ (by omega) (by omega)
   have hXb1 : ∀ w, (Instr.index 9 (.string Lib.smalls) (.int .u32 x1)).run Try.prog w = .ok (.int .u8 ((sm x1.toNat).toNat : Int)) w := idx_smalls 9 Try.underlying9 .u32 _ _ (by omega) (by omega)
   clear hx1 hH1
   go_region_o
   go_wp2
   go_end0
   exact ⟨rfl, _, _, by rw [AW1.out]; exact store2_world w blk off dk1 n1 1 0 _ _ (by rw [HS1.out]; omega) (by rw [HS1.out]; omega), by simp [HS1.out]⟩
  ·-- 5 places
   go_wp2
   have hH0 : Holds (fun (b : UInt8) => Value.int .u8 (b.toNat : Int)) W0 blk off dk0 := by rw [AW0.out]; exact holds_putRow _ w blk off d dk0 HH.out (HS0.out.trans HD.out)
   have c0a : W0.cell? ⟨blk, off + 4, none⟩ = some (.int .u8 (dk0[4]!.toNat : Int)) := (hH0 4 (by rw [HS0.out]; omega)).1
   have c0b : W0.cell? ⟨blk, off + 3, none⟩ = some (.int .u8 (dk0[3]!.toNat : Int)) := (hH0 3 (by rw [HS0.out]; omega)).1
   have f0a : W0.frozen? ⟨blk, off + 4, none⟩ = false := (hH0 4 (by rw [HS0.out]; omega)).2
   have f0b : W0.frozen? ⟨blk, off + 3, none⟩ = false := (hH0 3 (by rw [HS0.out]; omega)).2
   generalize (dk0[4]!.toNat : Int) = y0a at c0a
   generalize (dk0[3]!.toNat : Int) = y0b at c0b
   go_name_slot 15 x0 hx0
   have hlo0 : 0 ≤ x0 := by omega
   have hhi0 : x0 ≤ 198 := by omega
   have hXa0 : ∀ w, (Instr.index 9 (.string Lib.smalls) (.int .u32 (x0 + 1))).run Try.prog w = .ok (.int .u8 ((sm (x0 + 1).toNat).toNat : Int)) w := idx_smalls 9 Try.underlying9 .u32 _ _ (by omega) (by omega)
   have hXb0 : ∀ w, (Instr.index 9 (.string Lib.smalls) (.int .u32 x0)).run Try.prog w = .ok (.int .u8 ((sm x0.toNat).toNat : Int)) w := idx_smalls 9 Try.underlying9 .u32 _ _ (by omega) (by omega)
   clear hx0 hH0
   go_region_o
   go_wp2
   go_name_world W1 hW1
   have AW1 := Aside0.mk (show W1 = (putRow (fun (b : UInt8) => Value.int .u8 (b.toNat : Int)) w blk off ((dk0.setIfInBounds 4 (sm (x0 + 1).toNat)).setIfInBounds 3 (sm x0.toNat))).drewN (n0 + 1) from by rw [← hW1, AW0.out]; exact store2_world w blk off dk0 n0 4 3 _ _ (by rw [HS0.out]; omega) (by rw [HS0.out]; omega))
   have HS1 := Aside0.mk (show ((dk0.setIfInBounds 4 (sm (x0 + 1).toNat)).setIfInBounds 3 (sm x0.toNat)).size = 5 from by simp [HS0.out])
   generalize ((dk0.setIfInBounds 4 (sm (x0 + 1).toNat)).setIfInBounds 3 (sm x0.toNat)) = dk1 at AW1 HS1
   obtain ⟨n1, hn1⟩ : ∃ n, n = n0 + 1 := ⟨_, rfl⟩
   rw [← hn1] at AW1
   clear hW1 hn1 c0a c0b f0a f0b hXa0 hXb0 hlo0 hhi0 AW0 HS0
   have hz1 : Holds (fun (b : UInt8) => Value.int .u8 (b.toNat : Int)) W1 blk off dk1 := by rw [AW1.out]; exact holds_putRow _ w blk off d dk1 HH.out (HS1.out.trans HD.out)
   have cz : W1.cell? ⟨blk, off, none⟩ = some (.int .u8 (dk1[0]!.toNat : Int)) := (hz1 0 (by rw [HS1.out]; omega)).1
   have fz : W1.frozen? ⟨blk, off, none⟩ = false := (hz1 0 (by rw [HS1.out]; omega)).2
   generalize (dk1[0]!.toNat : Int) = yz at cz
   clear hz1
   have hH1 : Holds (fun (b : UInt8) => Value.int .u8 (b.toNat : Int)) W1 blk off dk1 := by rw [AW1.out]; exact holds_putRow _ w blk off d dk1 HH.out (HS1.out.trans HD.out)
   have c1a : W1.cell? ⟨blk, off + 2, none⟩ = some (.int .u8 (dk1[2]!.toNat : Int)) := (hH1 2 (by rw [HS1.out]; omega)).1
   have c1b : W1.cell? ⟨blk, off + 1, none⟩ = some (.int .u8 (dk1[1]!.toNat : Int)) := (hH1 1 (by rw [HS1.out]; omega)).1
   have f1a : W1.frozen? ⟨blk, off + 2, none⟩ = false := (hH1 2 (by rw [HS1.out]; omega)).2
   have f1b : W1.frozen? ⟨blk, off + 1, none⟩ = false := (hH1 1 (by rw [HS1.out]; omega)).2
   generalize (dk1[2]!.toNat : Int) = y1a at c1a
   generalize (dk1[1]!.toNat : Int) = y1b at c1b
   go_name_slot 14 x1 hx1
   have hlo1 : 0 ≤ x1 := by omega
   have hhi1 : x1 ≤ 198 := by omega
   have hXa1 : ∀ w, (Instr.index 9 (.string Lib.smalls) (.int .u32 (x1 + 1))).run Try.prog w = .ok (.int .u8 ((sm (x1 + 1).toNat).toNat : Int)) w := idx_smalls 9 Try.underlying9 .u32 _ _ (by omega) (by omega)
   have hXb1 : ∀ w, (Instr.index 9 (.string Lib.smalls) (.int .u32 x1)).run Try.prog w = .ok (.int .u8 ((sm x1.toNat).toNat : Int)) w := idx_smalls 9 Try.underlying9 .u32 _ _ (by omega) (by omega)
   clear hx1 hH1
   go_region_o
   go_wp2
   go_end0
   exact ⟨rfl, _, _, by rw [AW1.out]; exact store21_world w blk off dk1 n1 2 1 _ _ _ (u / 10000) (by omega) (by rw [HS1.out]; omega) (by rw [HS1.out]; omega), by simp [HS1.out]⟩
  ·-- 6 places
   go_wp2
   have hH0 : Holds (fun (b : UInt8) => Value.int .u8 (b.toNat : Int)) W0 blk off dk0 := by rw [AW0.out]; exact holds_putRow _ w blk off d dk0 HH.out (HS0.out.trans HD.out)
   have c0a : W0.cell? ⟨blk, off + 5, none⟩ = some (.int .u8 (dk0[5]!.toNat : Int)) := (hH0 5 (by rw [HS0.out]; omega)).1
   have c0b : W0.cell? ⟨blk, off + 4, none⟩ = some (.int .u8 (dk0[4]!.toNat : Int)) := (hH0 4 (by rw [HS0.out]; omega)).1
   have f0a : W0.frozen? ⟨blk, off + 5, none⟩ = false := (hH0 5 (by rw [HS0.out]; omega)).2
   have f0b : W0.frozen? ⟨blk, off + 4, none⟩ = false := (hH0 4 (by rw [HS0.out]; omega)).2
   generalize (dk0[5]!.toNat : Int) = y0a at c0a
   generalize (dk0[4]!.toNat : Int) = y0b at c0b
   go_name_slot 15 x0 hx0
   have hlo0 : 0 ≤ x0 := by omega
   have hhi0 : x0 ≤ 198 := by omega
   have hXa0 : ∀ w, (Instr.index 9 (.string Lib.smalls) (.int .u32 (x0 + 1))).run Try.prog w = .ok (.int .u8 ((sm (x0 + 1).toNat).toNat : Int)) w := idx_smalls 9 Try.underlying9 .u32 _ _ (by omega) (by omega)
   have hXb0 : ∀ w, (Instr.index 9 (.string Lib.smalls) (.int .u32 x0)).run Try.prog w = .ok (.int .u8 ((sm x0.toNat).toNat : Int)) w := idx_smalls 9 Try.underlying9 .u32 _ _ (by omega) (by omega)
   clear hx0 hH0
   go_region_o
   go_wp2
   go_name_world W1 hW1
   have AW1 := Aside0.mk (show W1 = (putRow (fun (b : UInt8) => Value.int .u8 (b.toNat : Int)) w blk off ((dk0.setIfInBounds 5 (sm (x0 + 1).toNat)).setIfInBounds 4 (sm x0.toNat))).drewN (n0 + 1) from by rw [← hW1, AW0.out]; exact store2_world w blk off dk0 n0 5 4 _ _ (by rw [HS0.out]; omega) (by rw [HS0.out]; omega))
   have HS1 := Aside0.mk (show ((dk0.setIfInBounds 5 (sm (x0 + 1).toNat)).setIfInBounds 4 (sm x0.toNat)).size = 6 from by simp [HS0.out])
   generalize ((dk0.setIfInBounds 5 (sm (x0 + 1).toNat)).setIfInBounds 4 (sm x0.toNat)) = dk1 at AW1 HS1
   obtain ⟨n1, hn1⟩ : ∃ n, n = n0 + 1 := ⟨_, rfl⟩
   rw [← hn1] at AW1
   clear hW1 hn1 c0a c0b f0a f0b hXa0 hXb0 hlo0 hhi0 AW0 HS0
   have hH1 : Holds (fun (b : UInt8) => Value.int .u8 (b.toNat : Int)) W1 blk off dk1 := by rw [AW1.out]; exact holds_putRow _ w blk off d dk1 HH.out (HS1.out.trans HD.out)
   have c1a : W1.cell? ⟨blk, off + 3, none⟩ = some (.int .u8 (dk1[3]!.toNat : Int)) := (hH1 3 (by rw [HS1.out]; omega)).1
   have c1b : W1.cell? ⟨blk, off + 2, none⟩ = some (.int .u8 (dk1[2]!.toNat : Int)) := (hH1 2 (by rw [HS1.out]; omega)).1
   have f1a : W1.frozen? ⟨blk, off + 3, none⟩ = false := (hH1 3 (by rw [HS1.out]; omega)).2
   have f1b : W1.frozen? ⟨blk, off + 2, none⟩ = false := (hH1 2 (by rw [HS1.out]; omega)).2
   generalize (dk1[3]!.toNat : Int) = y1a at c1a
   generalize (dk1[2]!.toNat : Int) = y1b at c1b
   go_name_slot 14 x1 hx1
   have hlo1 : 0 ≤ x1 := by omega
   have hhi1 : x1 ≤ 198 := by omega
   have hXa1 : ∀ w, (Instr.index 9 (.string Lib.smalls) (.int .u32 (x1 + 1))).run Try.prog w = .ok (.int .u8 ((sm (x1 + 1).toNat).toNat : Int)) w := idx_smalls 9 Try.underlying9 .u32 _ _ (by omega) (by omega)
   have hXb1 : ∀ w, (Instr.index 9 (.string Lib.smalls) (.int .u32 x1)).run Try.prog w = .ok (.int .u8 ((sm x1.toNat).toNat : Int)) w := idx_smalls 9 Try.underlying9 .u32 _ _ (by omega) (by omega)
   clear hx1 hH1
   go_region_o
   go_wp2
   go_name_world W2 hW2
   have AW2 := Aside0.mk (show W2 = (putRow (fun (b : UInt8) => Value.int .u8 (b.toNat : Int)) w blk off ((dk1.setIfInBounds 3 (sm (x1 + 1).toNat)).setIfInBounds 2 (sm x1.toNat))).drewN (n1 + 1) from by rw [← hW2, AW1.out]; exact store2_world w blk off dk1 n1 3 2 _ _ (by rw [HS1.out]; omega) (by rw [HS1.out]; omega))
   have HS2 := Aside0.mk (show ((dk1.setIfInBounds 3 (sm (x1 + 1).toNat)).setIfInBounds 2 (sm x1.toNat)).size = 6 from by simp [HS1.out])
   generalize ((dk1.setIfInBounds 3 (sm (x1 + 1).toNat)).setIfInBounds 2 (sm x1.toNat)) = dk2 at AW2 HS2
   obtain ⟨n2, hn2⟩ : ∃ n, n = n1 + 1 := ⟨_, rfl⟩
   rw [← hn2] at AW2
   clear hW2 hn2 c1a c1b f1a f1b hXa1 hXb1 hlo1 hhi1 AW1 HS1
   have hH2 : Holds (fun (b : UInt8) => Value.int .u8 (b.toNat : Int)) W2 blk off dk2 := by rw [AW2.out]; exact holds_putRow _ w blk off d dk2 HH.out (HS2.out.trans HD.out)
   have c2a : W2.cell? ⟨blk, off + 1, none⟩ = some (.int .u8 (dk2[1]!.toNat : Int)) := (hH2 1 (by rw [HS2.out]; omega)).1
   have c2b : W2.cell? ⟨blk, off, none⟩ = some (.int .u8 (dk2[0]!.toNat : Int)) := (hH2 0 (by rw [HS2.out]; omega)).1
   have f2a : W2.frozen? ⟨blk, off + 1, none⟩ = false := (hH2 1 (by rw [HS2.out]; omega)).2
   have f2b : W2.frozen? ⟨blk, off, none⟩ = false := (hH2 0 (by rw [HS2.out]; omega)).2
   generalize (dk2[1]!.toNat : Int) = y2a at c2a
   generalize (dk2[0]!.toNat : Int) = y2b at c2b
   go_name_slot 16 x2 hx2
   have hlo2 : 0 ≤ x2 := by omega
   have hhi2 : x2 ≤ 198 := by omega
   have hXa2 : ∀ w, (Instr.index 9 (.string Lib.smalls) (.int .u32 (x2 + 1))).run Try.prog w = .ok (.int .u8 ((sm (x2 + 1).toNat).toNat : Int)) w := idx_smalls 9 Try.underlying9 .u32 _ _ (by omega) (by omega)
   have hXb2 : ∀ w, (Instr.index 9 (.string Lib.smalls) (.int .u32 x2)).run Try.prog w = .ok (.int .u8 ((sm x2.toNat).toNat : Int)) w := idx_smalls 9 Try.underlying9 .u32 _ _ (by omega) (by omega)
   clear hx2 hH2
   go_region_o
   go_wp2
   go_end0
   exact ⟨rfl, _, _, by rw [AW2.out]; exact store2_world w blk off dk2 n2 1 0 _ _ (by rw [HS2.out]; omega) (by rw [HS2.out]; omega), by simp [HS2.out]⟩
  ·-- 7 places
   go_wp2
   have hH0 : Holds (fun (b : UInt8) => Value.int .u8 (b.toNat : Int)) W0 blk off dk0 := by rw [AW0.out]; exact holds_putRow _ w blk off d dk0 HH.out (HS0.out.trans HD.out)
   have c0a : W0.cell? ⟨blk, off + 6, none⟩ = some (.int .u8 (dk0[6]!.toNat : Int)) := (hH0 6 (by rw [HS0.out]; omega)).1
   have c0b : W0.cell? ⟨blk, off + 5, none⟩ = some (.int .u8 (dk0[5]!.toNat : Int)) := (hH0 5 (by rw [HS0.out]; omega)).1
   have f0a : W0.frozen? ⟨blk, off + 6, none⟩ = false := (hH0 6 (by rw [HS0.out]; omega)).2
   have f0b : W0.frozen? ⟨blk, off + 5, none⟩ = false := (hH0 5 (by rw [HS0.out]; omega)).2
   generalize (dk0[6]!.toNat : Int) = y0a at c0a
   generalize (dk0[5]!.toNat : Int) = y0b at c0b
   go_name_slot 15 x0 hx0
   have hlo0 : 0 ≤ x0 := by omega
   have hhi0 : x0 ≤ 198 := by omega
   have hXa0 : ∀ w, (Instr.index 9 (.string Lib.smalls) (.int .u32 (x0 + 1))).run Try.prog w = .ok (.int .u8 ((sm (x0 + 1).toNat).toNat : Int)) w := idx_smalls 9 Try.underlying9 .u32 _ _ (by omega) (by omega)
   have hXb0 : ∀ w, (Instr.index 9 (.string Lib.smalls) (.int .u32 x0)).run Try.prog w = .ok (.int .u8 ((sm x0.toNat).toNat : Int)) w := idx_smalls 9 Try.underlying9 .u32 _ _ (by omega) (by omega)
   clear hx0 hH0
   go_region_o
   go_wp2
   go_name_world W1 hW1
   have AW1 := Aside0.mk (show W1 = (putRow (fun (b : UInt8) => Value.int .u8 (b.toNat : Int)) w blk off ((dk0.setIfInBounds 6 (sm (x0 + 1).toNat)).setIfInBounds 5 (sm x0.toNat))).drewN (n0 + 1) from by rw [← hW1, AW0.out]; exact store2_world w blk off dk0 n0 6 5 _ _ (by rw [HS0.out]; omega) (by rw [HS0.out]; omega))
   have HS1 := Aside0.mk (show ((dk0.setIfInBounds 6 (sm (x0 + 1).toNat)).setIfInBounds 5 (sm x0.toNat)).size = 7 from by simp [HS0.out])
   generalize ((dk0.setIfInBounds 6 (sm (x0 + 1).toNat)).setIfInBounds 5 (sm x0.toNat)) = dk1 at AW1 HS1
   obtain ⟨n1, hn1⟩ : ∃ n, n = n0 + 1 := ⟨_, rfl⟩
   rw [← hn1] at AW1
   clear hW1 hn1 c0a c0b f0a f0b hXa0 hXb0 hlo0 hhi0 AW0 HS0
   have hH1 : Holds (fun (b : UInt8) => Value.int .u8 (b.toNat : Int)) W1 blk off dk1 := by rw [AW1.out]; exact holds_putRow _ w blk off d dk1 HH.out (HS1.out.trans HD.out)
   have c1a : W1.cell? ⟨blk, off + 4, none⟩ = some (.int .u8 (dk1[4]!.toNat : Int)) := (hH1 4 (by rw [HS1.out]; omega)).1
   have c1b : W1.cell? ⟨blk, off + 3, none⟩ = some (.int .u8 (dk1[3]!.toNat : Int)) := (hH1 3 (by rw [HS1.out]; omega)).1
   have f1a : W1.frozen? ⟨blk, off + 4, none⟩ = false := (hH1 4 (by rw [HS1.out]; omega)).2
   have f1b : W1.frozen? ⟨blk, off + 3, none⟩ = false := (hH1 3 (by rw [HS1.out]; omega)).2
   generalize (dk1[4]!.toNat : Int) = y1a at c1a
   generalize (dk1[3]!.toNat : Int) = y1b at c1b
   go_name_slot 14 x1 hx1
   have hlo1 : 0 ≤ x1 := by omega
   have hhi1 : x1 ≤ 198 := by omega
   have hXa1 : ∀ w, (Instr.index 9 (.string Lib.smalls) (.int .u32 (x1 + 1))).run Try.prog w = .ok (.int .u8 ((sm (x1 + 1).toNat).toNat : Int)) w := idx_smalls 9 Try.underlying9 .u32 _ _ (by omega) (by omega)
   have hXb1 : ∀ w, (Instr.index 9 (.string Lib.smalls) (.int .u32 x1)).run Try.prog w = .ok (.int .u8 ((sm x1.toNat).toNat : Int)) w := idx_smalls 9 Try.underlying9 .u32 _ _ (by omega) (by omega)
   clear hx1 hH1
   go_region_o
   go_wp2
   go_name_world W2 hW2
   have AW2 := Aside0.mk (show W2 = (putRow (fun (b : UInt8) => Value.int .u8 (b.toNat : Int)) w blk off ((dk1.setIfInBounds 4 (sm (x1 + 1).toNat)).setIfInBounds 3 (sm x1.toNat))).drewN (n1 + 1) from by rw [← hW2, AW1.out]; exact store2_world w blk off dk1 n1 4 3 _ _ (by rw [HS1.out]; omega) (by rw [HS1.out]; omega))
   have HS2 := Aside0.mk (show ((dk1.setIfInBounds 4 (sm (x1 + 1).toNat)).setIfInBounds 3 (sm x1.toNat)).size = 7 from by simp [HS1.out])
   generalize ((dk1.setIfInBounds 4 (sm (x1 + 1).toNat)).setIfInBounds 3 (sm x1.toNat)) = dk2 at AW2 HS2
   obtain ⟨n2, hn2⟩ : ∃ n, n = n1 + 1 := ⟨_, rfl⟩
   rw [← hn2] at AW2
   clear hW2 hn2 c1a c1b f1a f1b hXa1 hXb1 hlo1 hhi1 AW1 HS1
   have hz2 : Holds (fun (b : UInt8) => Value.int .u8 (b.toNat : Int)) W2 blk off dk2 := by rw [AW2.out]; exact holds_putRow _ w blk off d dk2 HH.out (HS2.out.trans HD.out)
   have cz : W2.cell? ⟨blk, off, none⟩ = some (.int .u8 (dk2[0]!.toNat : Int)) := (hz2 0 (by rw [HS2.out]; omega)).1
   have fz : W2.frozen? ⟨blk, off, none⟩ = false := (hz2 0 (by rw [HS2.out]; omega)).2
   generalize (dk2[0]!.toNat : Int) = yz at cz
   clear hz2
   have hH2 : Holds (fun (b : UInt8) => Value.int .u8 (b.toNat : Int)) W2 blk off dk2 := by rw [AW2.out]; exact holds_putRow _ w blk off d dk2 HH.out (HS2.out.trans HD.out)
   have c2a : W2.cell? ⟨blk, off + 2, none⟩ = some (.int .u8 (dk2[2]!.toNat : Int)) := (hH2 2 (by rw [HS2.out]; omega)).1
   have c2b : W2.cell? ⟨blk, off + 1, none⟩ = some (.int .u8 (dk2[1]!.toNat : Int)) := (hH2 1 (by rw [HS2.out]; omega)).1
   have f2a : W2.frozen? ⟨blk, off + 2, none⟩ = false := (hH2 2 (by rw [HS2.out]; omega)).2
   have f2b : W2.frozen? ⟨blk, off + 1, none⟩ = false := (hH2 1 (by rw [HS2.out]; omega)).2
   generalize (dk2[2]!.toNat : Int) = y2a at c2a
   generalize (dk2[1]!.toNat : Int) = y2b at c2b
   go_name_slot 16 x2 hx2
   have hlo2 : 0 ≤ x2 := by omega
   have hhi2 : x2 ≤ 198 := by omega
   have hXa2 : ∀ w, (Instr.index 9 (.string Lib.smalls) (.int .u32 (x2 + 1))).run Try.prog w = .ok (.int .u8 ((sm (x2 + 1).toNat).toNat : Int)) w := idx_smalls 9 Try.underlying9 .u32 _ _ (by omega) (by omega)
   have hXb2 : ∀ w, (Instr.index 9 (.string Lib.smalls) (.int .u32 x2)).run Try.prog w = .ok (.int .u8 ((sm x2.toNat).toNat : Int)) w := idx_smalls 9 Try.underlying9 .u32 _ _ (by omega) (by omega)
   clear hx2 hH2
   go_region_o
   go_wp2
   go_end0
   exact ⟨rfl, _, _, by rw [AW2.out]; exact store21_world w blk off dk2 n2 2 1 _ _ _ (u / 10000 / 100) (by omega) (by rw [HS2.out]; omega) (by rw [HS2.out]; omega), by simp [HS2.out]⟩
end Go.Proofs.Ytiofkhfmdophpaa.B
