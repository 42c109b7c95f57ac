import Derived.Test.YtacbbpbopmdpeaaB0
import Derived.Shelf.RegionOpenPlain
import Derived.Lib.Walk
import Derived.Lib.ItoaWalk
import Derived.WalkKit
import Derived.RegionTactic
import Derived.BigCall
import Derived.BigGuard
import Derived.CellFam
import Derived.Test.YtacbbpbopmdpeaaShelfI
import Derived.Lib.ItoaNum
import Derived.Lib.ItoaMem
import GoSem.Claims
/- internal/strconv.formatBase10 of at most seven places, whatever the number: it ends, and writes into its row alone. -/
namespace Go.Proofs.Ytacbbpbopmdpeaa.B
open Go Go.Shelf Go.RowKit Go.Sort Go.Lib Go.Proofs.YtacbbpbopmdpeaaW.PrintWords
set_option linter.unusedVariables false
set_option maxHeartbeats 12800000 in
set_option maxRecDepth 100000 in
theorem fmt_w (blk off cap : Nat) (u : Nat) (d : Array UInt8) (w : World) (HH : Aside0 (Holds (fun (b : UInt8) => Value.int .u8 (b.toNat : Int)) w blk off d)) (hu : u ≤ 1000000) (hd : d.size ≤ 7) :
  Calls Try.prog 84 #[.slice (some ⟨blk, off, none⟩) d.size cap, .int .u64 u] w fun e w' => e = .returned (.tuple #[]) ∧ ∃ (n : Nat) (dk : Array UInt8), w' = (putRow (fun (b : UInt8) => Value.int .u8 (b.toNat : Int)) w blk off dk).drewN n ∧ dk.size = d.size := by
 have mixed : Try.prog.follows .mixedOrders = true := rfl
 obtain ⟨nd, hnd⟩ : ∃ nd, nd = d.size := ⟨_, rfl⟩
 rw [← hnd]
 have HD := Aside0.mk hnd
 have hnd7 : nd ≤ 7 := by omega
 clear hnd hd
 go_enter Try.func84, Try.ntmps84
 go_name_bytes SM hSM
 have eSM : SM = Lib.smalls := by rw [← hSM]; decide +kernel
 subst eSM
 clear hSM
 go_wp2
 go_loopw [1, 4] (fun vu vn wr => vu = .int .u64 (u : Int) ∧ vn = .int .i64 (nd : Int) ∧ wr = (putRow (fun (b : UInt8) => Value.int .u8 (b.toNat : Int)) w blk off d).drewN 0) (fun _ _ _ => 0)
 case atStart => exact ⟨rfl, rfl, by rw [putRow_self _ _ _ _ _ HH.out]; rfl⟩
 case round =>
  obtain ⟨rfl, rfl, hw0⟩ := hrel
  rename World => W0
  have AW0 := Aside0.mk hw0
  clear hw0
  obtain ⟨dk0, hdk⟩ : ∃ dk, dk = d := ⟨_, rfl⟩
  have HS0 := Aside0.mk (show dk0.size = nd from by rw [hdk]; exact HD.out.symm)
  rw [← hdk] at AW0
  clear hdk
  obtain ⟨n0, hn0⟩ : ∃ n, n = 0 := ⟨_, rfl⟩
  rw [← hn0] at AW0
  clear hn0
  have hc8 : nd = 0 ∨ nd = 1 ∨ nd = 2 ∨ nd = 3 ∨ nd = 4 ∨ nd = 5 ∨ nd = 6 ∨ nd = 7 := by omega
  clear hnd7
  rcases hc8 with rfl | rfl | rfl | rfl | rfl | rfl | rfl | rfl
  ·-- 0 places
   go_wp2
   go_end0
   exact ⟨rfl, n0, dk0, AW0.out, HS0.out⟩
  ·-- 1 places
   have hz0 : Holds (fun (b : UInt8) => Value.int .u8 (b.toNat : Int)) W0 blk off dk0 := by rw [AW0.out]; exact holds_putRow _ w blk off d dk0 HH.out (HS0.out.trans HD.out)
   have cz : W0.cell? ⟨blk, off, none⟩ = some (.int .u8 (dk0[0]!.toNat : Int)) := (hz0 0 (by rw [HS0.out]; omega)).1
   have fz : W0.frozen? ⟨blk, off, none⟩ = false := (hz0 0 (by rw [HS0.out]; omega)).2
   generalize (dk0[0]!.toNat : Int) = yz at cz
   clear hz0
   go_wp2
   go_end0
   exact ⟨rfl, _, _, by rw [AW0.out]; exact store1_world0 w blk off dk0 n0 _ u (by omega) (by rw [HS0.out]; omega), by simp [HS0.out]⟩
  ·-- 2 places
   go_wp2
   have hH0 : Holds (fun (b : UInt8) => Value.int .u8 (b.toNat : Int)) W0 blk off dk0 := by rw [AW0.out]; exact holds_putRow _ w blk off d dk0 HH.out (HS0.out.trans HD.out)
   have c0a : W0.cell? ⟨blk, off + 1, none⟩ = some (.int .u8 (dk0[1]!.toNat : Int)) := (hH0 1 (by rw [HS0.out]; omega)).1
   have c0b : W0.cell? ⟨blk, off, none⟩ = some (.int .u8 (dk0[0]!.toNat : Int)) := (hH0 0 (by rw [HS0.out]; omega)).1
   have f0a : W0.frozen? ⟨blk, off + 1, none⟩ = false := (hH0 1 (by rw [HS0.out]; omega)).2
   have f0b : W0.frozen? ⟨blk, off, none⟩ = false := (hH0 0 (by rw [HS0.out]; omega)).2
   generalize (dk0[1]!.toNat : Int) = y0a at c0a
   generalize (dk0[0]!.toNat : Int) = y0b at c0b
   go_name_slot 16 x0 hx0
   have hlo0 : 0 ≤ x0 := by omega
   have hhi0 : x0 ≤ 198 := by omega
   have hXa0 : ∀ w, (Instr.index 9 (.string Lib.smalls) (.int .u32 (x0 + 1))).run Try.prog w = .ok (.int .u8 ((sm (x0 + 1).toNat).toNat : Int)) w := idx_smalls 9 Try.underlying9 .u32 _ _ (by omega) (by omega)
   have hXb0 : ∀ w, (Instr.index 9 (.string Lib.smalls) (.int .u32 x0)).run Try.prog w = .ok (.int .u8 ((sm x0.toNat).toNat : Int)) w := idx_smalls 9 Try.underlying9 .u32 _ _ (by omega) (by omega)
   clear hx0 hH0
   go_region_o
   go_wp2
   go_end0
   exact ⟨rfl, _, _, by rw [AW0.out]; exact store2_world w blk off dk0 n0 1 0 _ _ (by rw [HS0.out]; omega) (by rw [HS0.out]; omega), by simp [HS0.out]⟩
  ·-- 3 places
   go_wp2
   have hz0 : Holds (fun (b : UInt8) => Value.int .u8 (b.toNat : Int)) W0 blk off dk0 := by rw [AW0.out]; exact holds_putRow _ w blk off d dk0 HH.out (HS0.out.trans HD.out)
   have cz : W0.cell? ⟨blk, off, none⟩ = some (.int .u8 (dk0[0]!.toNat : Int)) := (hz0 0 (by rw [HS0.out]; omega)).1
   have fz : W0.frozen? ⟨blk, off, none⟩ = false := (hz0 0 (by rw [HS0.out]; omega)).2
   generalize (dk0[0]!.toNat : Int) = yz at cz
   clear hz0
   have hH0 : Holds (fun (b : UInt8) => Value.int .u8 (b.toNat : Int)) W0 blk off dk0 := by rw [AW0.out]; exact holds_putRow _ w blk off d dk0 HH.out (HS0.out.trans HD.out)
   have c0a : W0.cell? ⟨blk, off + 2, none⟩ = some (.int .u8 (dk0[2]!.toNat : Int)) := (hH0 2 (by rw [HS0.out]; omega)).1
   have c0b : W0.cell? ⟨blk, off + 1, none⟩ = some (.int .u8 (dk0[1]!.toNat : Int)) := (hH0 1 (by rw [HS0.out]; omega)).1
   have f0a : W0.frozen? ⟨blk, off + 2, none⟩ = false := (hH0 2 (by rw [HS0.out]; omega)).2
   have f0b : W0.frozen? ⟨blk, off + 1, none⟩ = false := (hH0 1 (by rw [HS0.out]; omega)).2
   generalize (dk0[2]!.toNat : Int) = y0a at c0a
   generalize (dk0[1]!.toNat : Int) = y0b at c0b
   go_name_slot 16 x0 hx0
   have hlo0 : 0 ≤ x0 := by omega
   have hhi0 : x0 ≤ 198 := by omega
   have hXa0 : ∀ w, (Instr.index 9 (.string Lib.smalls) (.int .u32 (x0 + 1))).run Try.prog w = .ok (.int .u8 ((sm (x0 + 1).toNat).toNat : Int)) w := idx_smalls 9 Try.underlying9 .u32 _ _ (by omega) (by omega)
   have hXb0 : ∀ w, (Instr.index 9 (.string Lib.smalls) (.int .u32 x0)).run Try.prog w = .ok (.int .u8 ((sm x0.toNat).toNat : Int)) w := idx_smalls 9 Try.underlying9 .u32 _ _ (by omega) (by omega)
   clear hx0 hH0
   go_region_o
   go_wp2
   go_end0
   exact ⟨rfl, _, _, by rw [AW0.out]; exact store21_world w blk off dk0 n0 2 1 _ _ _ (u / 100) (by omega) (by rw [HS0.out]; omega) (by rw [HS0.out]; omega), by simp [HS0.out]⟩
  ·-- 4 places
   go_wp2
   have hH0 : Holds (fun (b : UInt8) => Value.int .u8 (b.toNat : Int)) W0 blk off dk0 := by rw [AW0.out]; exact holds_putRow _ w blk off d dk0 HH.out (HS0.out.trans HD.out)
   have c0a : W0.cell? ⟨blk, off + 3, none⟩ = some (.int .u8 (dk0[3]!.toNat : Int)) := (hH0 3 (by rw [HS0.out]; omega)).1
   have c0b : W0.cell? ⟨blk, off + 2, none⟩ = some (.int .u8 (dk0[2]!.toNat : Int)) := (hH0 2 (by rw [HS0.out]; omega)).1
   have f0a : W0.frozen? ⟨blk, off + 3, none⟩ = false := (hH0 3 (by rw [HS0.out]; omega)).2
   have f0b : W0.frozen? ⟨blk, off + 2, none⟩ = false := (hH0 2 (by rw [HS0.out]; omega)).2
   generalize (dk0[3]!.toNat : Int) = y0a at c0a
   generalize (dk0[2]!.toNat : Int) = y0b at c0b
   go_name_slot 15 x0 hx0
   have hlo0 : 0 ≤ x0 := by omega
   have hhi0 : x0 ≤ 198 := by omega
   have hXa0 : ∀ w, (Instr.index 9 (.string Lib.smalls) (.int .u32 (x0 + 1))).run Try.prog w = .ok (.int .u8 ((sm (x0 + 1).toNat).toNat : Int)) w := idx_smalls 9 Try.underlying9 .u32 _ _ (by omega) (by omega)
   have hXb0 : ∀ w, (Instr.index 9 (.string Lib.smalls) (.int .u32 x0)).run Try.prog w = .ok (.int .u8 ((sm x0.toNat).toNat : Int)) w := idx_smalls 9 Try.underlying9 .u32 _ _ (by omega) (by omega)
   clear hx0 hH0
   go_region_o
   go_wp2
   go_name_world W1 hW1
   have AW1 := Aside0.mk (show W1 = (putRow (fun (b : UInt8) => Value.int .u8 (b.toNat : Int)) w blk off ((dk0.setIfInBounds 3 (sm (x0 + 1).toNat)).setIfInBounds 2 (sm x0.toNat))).drewN (n0 + 1) from by rw [← hW1, AW0.out]; exact store2_world w blk off dk0 n0 3 2 _ _ (by rw [HS0.out]; omega) (by rw [HS0.out]; omega))
   have HS1 := Aside0.mk (show ((dk0.setIfInBounds 3 (sm (x0 + 1).toNat)).setIfInBounds 2 (sm x0.toNat)).size = 4 from by simp [HS0.out])
   generalize ((dk0.setIfInBounds 3 (sm (x0 + 1).toNat)).setIfInBounds 2 (sm x0.toNat)) = dk1 at AW1 HS1
   obtain ⟨n1, hn1⟩ : ∃ n, n = n0 + 1 := ⟨_, rfl⟩
   rw [← hn1] at AW1
   clear hW1 hn1 c0a c0b f0a f0b hXa0 hXb0 hlo0 hhi0 AW0 HS0
   have hH1 : Holds (fun (b : UInt8) => Value.int .u8 (b.toNat : Int)) W1 blk off dk1 := by rw [AW1.out]; exact holds_putRow _ w blk off d dk1 HH.out (HS1.out.trans HD.out)
   have c1a : W1.cell? ⟨blk, off + 1, none⟩ = some (.int .u8 (dk1[1]!.toNat : Int)) := (hH1 1 (by rw [HS1.out]; omega)).1
   have c1b : W1.cell? ⟨blk, off, none⟩ = some (.int .u8 (dk1[0]!.toNat : Int)) := (hH1 0 (by rw [HS1.out]; omega)).1
   have f1a : W1.frozen? ⟨blk, off + 1, none⟩ = false := (hH1 1 (by rw [HS1.out]; omega)).2
   have f1b : W1.frozen? ⟨blk, off, none⟩ = false := (hH1 0 (by rw [HS1.out]; omega)).2
   generalize (dk1[1]!.toNat : Int) = y1a at c1a
   generalize (dk1[0]!.toNat : Int) = y1b at c1b
   go_name_slot 14 x1 hx1
   have hlo1 : 0 ≤ x1 := by omega
   have hhi1 : x1 ≤ 198 := by omega
   have hXa1 : ∀ w, (Instr.index 9 (.string Lib.smalls) (.int .u32 (x1 + 1))).run Try.prog w = .ok (.int .u8 ((sm (x1 + 1).toNat).toNat : Int)) w := idx_smalls 9 Try.underlying9 .u32 _ _ (by omega) (by omega)
   have hXb1 : ∀ w, (Instr.index 9 (.string Lib.smalls) (.int .u32 x1)).run Try.prog w = .ok (.int .u8 ((sm x1.toNat).toNat : Int)) w := idx_smalls 9 Try.underlying9 .u32 _ _ (by omega) (by omega)
   clear hx1 hH1
   go_region_o
   go_wp2
   go_end0
   exact ⟨rfl, _, _, by rw [AW1.out]; exact store2_world w blk off dk1 n1 1 0 _ _ (by rw [HS1.out]; omega) (by rw [HS1.out]; omega), by simp [HS1.out]⟩
  ·-- 5 places
   go_wp2
   have hH0 : Holds (fun (b : UInt8) => Value.int .u8 (b.toNat : Int)) W0 blk off dk0 := by rw [AW0.out]; exact holds_putRow _ w blk off d dk0 HH.out (HS0.out.trans HD.out)
   have c0a : W0.cell? ⟨blk, off + 4, none⟩ = some (.int .u8 (dk0[4]!.toNat : Int)) := (hH0 4 (by rw [HS0.out]; omega)).1
   have c0b : W0.cell? ⟨blk, off + 3, none⟩ = some (.int .u8 (dk0[3]!.toNat : Int)) := (hH0 3 (by rw [HS0.out]; omega)).1
   have f0a : W0.frozen? ⟨blk, off + 4, none⟩ = false := (hH0 4 (by rw [HS0.out]; omega)).2
   have f0b : W0.frozen? ⟨blk, off + 3, none⟩ = false := (hH0 3 (by rw [HS0.out]; omega)).2
   generalize (dk0[4]!.toNat : Int) = y0a at c0a
   generalize (dk0[3]!.toNat : Int) = y0b at c0b
   go_name_slot 15 x0 hx0
   have hlo0 : 0 ≤ x0 := by omega
   have hhi0 : x0 ≤ 198 := by omega
   have hXa0 : ∀ w, (Instr.index 9 (.string Lib.smalls) (.int .u32 (x0 + 1))).run Try.prog w = .ok (.int .u8 ((sm (x0 + 1).toNat).toNat : Int)) w := idx_smalls 9 Try.underlying9 .u32 _ _ (by omega) (by omega)
   have hXb0 : ∀ w, (Instr.index 9 (.string Lib.smalls) (.int .u32 x0)).run Try.prog w = .ok (.int .u8 ((sm x0.toNat).toNat : Int)) w := idx_smalls 9 Try.underlying9 .u32 _ _ (by omega) (by omega)
   clear hx0 hH0
   go_region_o
   go_wp2
   go_name_world W1 hW1
   have AW1 := Aside0.mk (show W1 = (putRow (fun (b : UInt8) => Value.int .u8 (b.toNat : Int)) w blk off ((dk0.setIfInBounds 4 (sm (x0 + 1).toNat)).setIfInBounds 3 (sm x0.toNat))).drewN (n0 + 1) from by rw [← hW1, AW0.out]; exact store2_world w blk off dk0 n0 4 3 _ _ (by rw [HS0.out]; omega) (by rw [HS0.out]; omega))
   have HS1 := Aside0.mk (show ((dk0.setIfInBounds 4 (sm (x0 + 1).toNat)).setIfInBounds 3 (sm x0.toNat)).size = 5 from by simp [HS0.out])
   generalize ((dk0.setIfInBounds 4 (sm (x0 + 1).toNat)).setIfInBounds 3 (sm x0.toNat)) = dk1 at AW1 HS1
   obtain ⟨n1, hn1⟩ : ∃ n, n = n0 + 1 := ⟨_, rfl⟩
   rw [← hn1] at AW1
   clear hW1 hn1 c0a c0b f0a f0b hXa0 hXb0 hlo0 hhi0 AW0 HS0
   have hz1 : Holds (fun (b : UInt8) => Value.int .u8 (b.toNat : Int)) W1 blk off dk1 := by rw [AW1.out]; exact holds_putRow _ w blk off d dk1 HH.out (HS1.out.trans HD.out)
   have cz : W1.cell? ⟨blk, off, none⟩ = some (.int .u8 (dk1[0]!.toNat : Int)) := (hz1 0 (by rw [HS1.out]; omega)).1
   have fz : W1.frozen? ⟨blk, off, none⟩ = false := (hz1 0 (by rw [HS1.out]; omega)).2
   generalize (dk1[0]!.toNat : Int) = yz at cz
   clear hz1
   have hH1 : Holds (fun (b : UInt8) => Value.int .u8 (b.toNat : Int)) W1 blk off dk1 := by rw [AW1.out]; exact holds_putRow _ w blk off d dk1 HH.out (HS1.out.trans HD.out)
   have c1a : W1.cell? ⟨blk, off + 2, none⟩ = some (.int .u8 (dk1[2]!.toNat : Int)) := (hH1 2 (by rw [HS1.out]; omega)).1
   have c1b : W1.cell? ⟨blk, off + 1, none⟩ = some (.int .u8 (dk1[1]!.toNat : Int)) := (hH1 1 (by rw [HS1.out]; omega)).1
   have f1a : W1.frozen? ⟨blk, off + 2, none⟩ = false := (hH1 2 (by rw [HS1.out]; omega)).2
   have f1b : W1.frozen? ⟨blk, off + 1, none⟩ = false := (hH1 1 (by rw [HS1.out]; omega)).2
   generalize (dk1[2]!.toNat : Int) = y1a at c1a
   generalize (dk1[1]!.toNat : Int) = y1b at c1b
   go_name_slot 14 x1 hx1
   have hlo1 : 0 ≤ x1 := by omega
   have hhi1 : x1 ≤ 198 := by omega
   have hXa1 : ∀ w, (Instr.index 9 (.string Lib.smalls) (.int .u32 (x1 + 1))).run Try.prog w = .ok (.int .u8 ((sm (x1 + 1).toNat).toNat : Int)) w := idx_smalls 9 Try.underlying9 .u32 _ _ (by omega) (by omega)
   have hXb1 : ∀ w, (Instr.index 9 (.string Lib.smalls) (.int .u32 x1)).run Try.prog w = .ok (.int .u8 ((sm x1.toNat).toNat : Int)) w := idx_smalls 9 Try.underlying9 .u32 _ _ (by omega) (by omega)
   clear hx1 hH1
   go_region_o
   go_wp2
   go_end0
   exact ⟨rfl, _, _, by rw [AW1.out]; exact store21_world w blk off dk1 n1 2 1 _ _ _ (u / 10000) (by omega) (by rw [HS1.out]; omega) (by rw [HS1.out]; omega), by simp [HS1.out]⟩
  ·-- 6 places
   go_wp2
   have hH0 : Holds (fun (b : UInt8) => Value.int .u8 (b.toNat : Int)) W0 blk off dk0 := by rw [AW0.out]; exact holds_putRow _ w blk off d dk0 HH.out (HS0.out.trans HD.out)
   have c0a : W0.cell? ⟨blk, off + 5, none⟩ = some (.int .u8 (dk0[5]!.toNat : Int)) := (hH0 5 (by rw [HS0.out]; omega)).1
   have c0b : W0.cell? ⟨blk, off + 4, none⟩ = some (.int .u8 (dk0[4]!.toNat : Int)) := (hH0 4 (by rw [HS0.out]; omega)).1
   have f0a : W0.frozen? ⟨blk, off + 5, none⟩ = false := (hH0 5 (by rw [HS0.out]; omega)).2
   have f0b : W0.frozen? ⟨blk, off + 4, none⟩ = false := (hH0 4 (by rw [HS0.out]; omega)).2
   generalize (dk0[5]!.toNat : Int) = y0a at c0a
   generalize (dk0[4]!.toNat : Int) = y0b at c0b
   go_name_slot 15 x0 hx0
   have hlo0 : 0 ≤ x0 := by omega
   have hhi0 : x0 ≤ 198 := by omega
   have hXa0 : ∀ w, (Instr.index 9 (.string Lib.smalls) (.int .u32 (x0 + 1))).run Try.prog w = .ok (.int .u8 ((sm (x0 + 1).toNat).toNat : Int)) w := idx_smalls 9 Try.underlying9 .u32 _ _ (by omega) (by omega)
   have hXb0 : ∀ w, (Instr.index 9 (.string Lib.smalls) (.int .u32 x0)).run Try.prog w = .ok (.int .u8 ((sm x0.toNat).toNat : Int)) w := idx_smalls 9 Try.underlying9 .u32 _ _ (by omega) (by omega)
   clear hx0 hH0
   go_region_o
   go_wp2
   go_name_world W1 hW1
   have AW1 := Aside0.mk (show W1 = (putRow (fun (b : UInt8) => Value.int .u8 (b.toNat : Int)) w blk off ((dk0.setIfInBounds 5 (sm (x0 + 1).toNat)).setIfInBounds 4 (sm x0.toNat))).drewN (n0 + 1) from by rw [← hW1, AW0.out]; exact store2_world w blk off dk0 n0 5 4 _ _ (by rw [HS0.out]; omega) (by rw [HS0.out]; omega))
   have HS1 := Aside0.mk (show ((dk0.setIfInBounds 5 (sm (x0 + 1).toNat)).setIfInBounds 4 (sm x0.toNat)).size = 6 from by simp [HS0.out])
   generalize ((dk0.setIfInBounds 5 (sm (x0 + 1).toNat)).setIfInBounds 4 (sm x0.toNat)) = dk1 at AW1 HS1
   obtain ⟨n1, hn1⟩ : ∃ n, n = n0 + 1 := ⟨_, rfl⟩
   rw [← hn1] at AW1
   clear hW1 hn1 c0a c0b f0a f0b hXa0 hXb0 hlo0 hhi0 AW0 HS0
   have hH1 : Holds (fun (b : UInt8) => Value.int .u8 (b.toNat : Int)) W1 blk off dk1 := by rw [AW1.out]; exact holds_putRow _ w blk off d dk1 HH.out (HS1.out.trans HD.out)
   have c1a : W1.cell? ⟨blk, off + 3, none⟩ = some (.int .u8 (dk1[3]!.toNat : Int)) := (hH1 3 (by rw [HS1.out]; omega)).1
   have c1b : W1.cell? ⟨blk, off + 2, none⟩ = some (.int .u8 (dk1[2]!.toNat : Int)) := (hH1 2 (by rw [HS1.out]; omega)).1
   have f1a : W1.frozen? ⟨blk, off + 3, none⟩ = false := (hH1 3 (by rw [HS1.out]; omega)).2
   have f1b : W1.frozen? ⟨blk, off + 2, none⟩ = false := (hH1 2 (by rw [HS1.out]; omega)).2
   generalize (dk1[3]!.toNat : Int) = y1a at c1a
   generalize (dk1[2]!.toNat : Int) = y1b at c1b
   go_name_slot 14 x1 hx1
   have hlo1 : 0 ≤ x1 := by omega
   have hhi1 : x1 ≤ 198 := by omega
   have hXa1 : ∀ w, (Instr.index 9 (.string Lib.smalls) (.int .u32 (x1 + 1))).run Try.prog w = .ok (.int .u8 ((sm (x1 + 1).toNat).toNat : Int)) w := idx_smalls 9 Try.underlying9 .u32 _ _ (by omega) (by omega)
   have hXb1 : ∀ w, (Instr.index 9 (.string Lib.smalls) (.int .u32 x1)).run Try.prog w = .ok (.int .u8 ((sm x1.toNat).toNat : Int)) w := idx_smalls 9 Try.underlying9 .u32 _ _ (by omega) (by omega)
   clear hx1 hH1
   go_region_o
   go_wp2
   go_name_world W2 hW2
   have AW2 := Aside0.mk (show W2 = (putRow (fun (b : UInt8) => Value.int .u8 (b.toNat : Int)) w blk off ((dk1.setIfInBounds 3 (sm (x1 + 1).toNat)).setIfInBounds 2 (sm x1.toNat))).drewN (n1 + 1) from by rw [← hW2, AW1.out]; exact store2_world w blk off dk1 n1 3 2 _ _ (by rw [HS1.out]; omega) (by rw [HS1.out]; omega))
   have HS2 := Aside0.mk (show ((dk1.setIfInBounds 3 (sm (x1 + 1).toNat)).setIfInBounds 2 (sm x1.toNat)).size = 6 from by simp [HS1.out])
   generalize ((dk1.setIfInBounds 3 (sm (x1 + 1).toNat)).setIfInBounds 2 (sm x1.toNat)) = dk2 at AW2 HS2
   obtain ⟨n2, hn2⟩ : ∃ n, n = n1 + 1 := ⟨_, rfl⟩
   rw [← hn2] at AW2
   clear hW2 hn2 c1a c1b f1a f1b hXa1 hXb1 hlo1 hhi1 AW1 HS1
   have hH2 : Holds (fun (b : UInt8) => Value.int .u8 (b.toNat : Int)) W2 blk off dk2 := by rw [AW2.out]; exact holds_putRow _ w blk off d dk2 HH.out (HS2.out.trans HD.out)
   have c2a : W2.cell? ⟨blk, off + 1, none⟩ = some (.int .u8 (dk2[1]!.toNat : Int)) := (hH2 1 (by rw [HS2.out]; omega)).1
   have c2b : W2.cell? ⟨blk, off, none⟩ = some (.int .u8 (dk2[0]!.toNat : Int)) := (hH2 0 (by rw [HS2.out]; omega)).1
   have f2a : W2.frozen? ⟨blk, off + 1, none⟩ = false := (hH2 1 (by rw [HS2.out]; omega)).2
   have f2b : W2.frozen? ⟨blk, off, none⟩ = false := (hH2 0 (by rw [HS2.out]; omega)).2
   generalize (dk2[1]!.toNat : Int) = y2a at c2a
   generalize (dk2[0]!.toNat : Int) = y2b at c2b
   go_name_slot 16 x2 hx2
   have hlo2 : 0 ≤ x2 := by omega
   have hhi2 : x2 ≤ 198 := by omega
   have hXa2 : ∀ w, (Instr.index 9 (.string Lib.smalls) (.int .u32 (x2 + 1))).run Try.prog w = .ok (.int .u8 ((sm (x2 + 1).toNat).toNat : Int)) w := idx_smalls 9 Try.underlying9 .u32 _ _ (by omega) (by omega)
   have hXb2 : ∀ w, (Instr.index 9 (.string Lib.smalls) (.int .u32 x2)).run Try.prog w = .ok (.int .u8 ((sm x2.toNat).toNat : Int)) w := idx_smalls 9 Try.underlying9 .u32 _ _ (by omega) (by omega)
   clear hx2 hH2
   go_region_o
   go_wp2
   go_end0
   exact ⟨rfl, _, _, by rw [AW2.out]; exact store2_world w blk off dk2 n2 1 0 _ _ (by rw [HS2.out]; omega) (by rw [HS2.out]; omega), by simp [HS2.out]⟩
  ·-- 7 places
   go_wp2
   have hH0 : Holds (fun (b : UInt8) => Value.int .u8 (b.toNat : Int)) W0 blk off dk0 := by rw [AW0.out]; exact holds_putRow _ w blk off d dk0 HH.out (HS0.out.trans HD.out)
   have c0a : W0.cell? ⟨blk, off + 6, none⟩ = some (.int .u8 (dk0[6]!.toNat : Int)) := (hH0 6 (by rw [HS0.out]; omega)).1
   have c0b : W0.cell? ⟨blk, off + 5, none⟩ = some (.int .u8 (dk0[5]!.toNat : Int)) := (hH0 5 (by rw [HS0.out]; omega)).1
   have f0a : W0.frozen? ⟨blk, off + 6, none⟩ = false := (hH0 6 (by rw [HS0.out]; omega)).2
   have f0b : W0.frozen? ⟨blk, off + 5, none⟩ = false := (hH0 5 (by rw [HS0.out]; omega)).2
   generalize (dk0[6]!.toNat : Int) = y0a at c0a
   generalize (dk0[5]!.toNat : Int) = y0b at c0b
   go_name_slot 15 x0 hx0
   have hlo0 : 0 ≤ x0 := by omega
   have hhi0 : x0 ≤ 198 := by omega
   have hXa0 : ∀ w, (Instr.index 9 (.string Lib.smalls) (.int .u32 (x0 + 1))).run Try.prog w = .ok (.int .u8 ((sm (x0 + 1).toNat).toNat : Int)) w := idx_smalls 9 Try.underlying9 .u32 _ _ (by omega) (by omega)
   have hXb0 : ∀ w, (Instr.index 9 (.string Lib.smalls) (.int .u32 x0)).run Try.prog w = .ok (.int .u8 ((sm x0.toNat).toNat : Int)) w := idx_smalls 9 Try.underlying9 .u32 _ _ (by omega) (by omega)
   clear hx0 hH0
   go_region_o
   go_wp2
   go_name_world W1 hW1
   have AW1 := Aside0.mk (show W1 = (putRow (fun (b : UInt8) => Value.int .u8 (b.toNat : Int)) w blk off ((dk0.setIfInBounds 6 (sm (x0 + 1).toNat)).setIfInBounds 5 (sm x0.toNat))).drewN (n0 + 1) from by rw [← hW1, AW0.out]; exact store2_world w blk off dk0 n0 6 5 _ _ (by rw [HS0.out]; omega) (by rw [HS0.out]; omega))
   have HS1 := Aside0.mk (show ((dk0.setIfInBounds 6 (sm (x0 + 1).toNat)).setIfInBounds 5 (sm x0.toNat)).size = 7 from by simp [HS0.out])
   generalize ((dk0.setIfInBounds 6 (sm (x0 + 1).toNat)).setIfInBounds 5 (sm x0.toNat)) = dk1 at AW1 HS1
   obtain ⟨n1, hn1⟩ : ∃ n, n = n0 + 1 := ⟨_, rfl⟩
   rw [← hn1] at AW1
   clear hW1 hn1 c0a c0b f0a f0b hXa0 hXb0 hlo0 hhi0 AW0 HS0
   have hH1 : Holds (fun (b : UInt8) => Value.int .u8 (b.toNat : Int)) W1 blk off dk1 := by rw [AW1.out]; exact holds_putRow _ w blk off d dk1 HH.out (HS1.out.trans HD.out)
   have c1a : W1.cell? ⟨blk, off + 4, none⟩ = some (.int .u8 (dk1[4]!.toNat : Int)) := (hH1 4 (by rw [HS1.out]; omega)).1
   have c1b : W1.cell? ⟨blk, off + 3, none⟩ = some (.int .u8 (dk1[3]!.toNat : Int)) := (hH1 3 (by rw [HS1.out]; omega)).1
   have f1a : W1.frozen? ⟨blk, off + 4, none⟩ = false := (hH1 4 (by rw [HS1.out]; omega)).2
   have f1b : W1.frozen? ⟨blk, off + 3, none⟩ = false := (hH1 3 (by rw [HS1.out]; omega)).2
   generalize (dk1[4]!.toNat : Int) = y1a at c1a
   generalize (dk1[3]!.toNat : Int) = y1b at c1b
   go_name_slot 14 x1 hx1
   have hlo1 : 0 ≤ x1 := by omega
   have hhi1 : x1 ≤ 198 := by omega
   have hXa1 : ∀ w, (Instr.index 9 (.string Lib.smalls) (.int .u32 (x1 + 1))).run Try.prog w = .ok (.int .u8 ((sm (x1 + 1).toNat).toNat : Int)) w := idx_smalls 9 Try.underlying9 .u32 _ _ (by omega) (by omega)
   have hXb1 : ∀ w, (Instr.index 9 (.string Lib.smalls) (.int .u32 x1)).run Try.prog w = .ok (.int .u8 ((sm x1.toNat).toNat : Int)) w := idx_smalls 9 Try.underlying9 .u32 _ _ (by omega) (by omega)
   clear hx1 hH1
   go_region_o
   go_wp2
   go_name_world W2 hW2
   have AW2 := Aside0.mk (show W2 = (putRow (fun (b : UInt8) => Value.int .u8 (b.toNat : Int)) w blk off ((dk1.setIfInBounds 4 (sm (x1 + 1).toNat)).setIfInBounds 3 (sm x1.toNat))).drewN (n1 + 1) from by rw [← hW2, AW1.out]; exact store2_world w blk off dk1 n1 4 3 _ _ (by rw [HS1.out]; omega) (by rw [HS1.out]; omega))
   have HS2 := Aside0.mk (show ((dk1.setIfInBounds 4 (sm (x1 + 1).toNat)).setIfInBounds 3 (sm x1.toNat)).size = 7 from by simp [HS1.out])
   generalize ((dk1.setIfInBounds 4 (sm (x1 + 1).toNat)).setIfInBounds 3 (sm x1.toNat)) = dk2 at AW2 HS2
   obtain ⟨n2, hn2⟩ : ∃ n, n = n1 + 1 := ⟨_, rfl⟩
   rw [← hn2] at AW2
   clear hW2 hn2 c1a c1b f1a f1b hXa1 hXb1 hlo1 hhi1 AW1 HS1
   have hz2 : Holds (fun (b : UInt8) => Value.int .u8 (b.toNat : Int)) W2 blk off dk2 := by rw [AW2.out]; exact holds_putRow _ w blk off d dk2 HH.out (HS2.out.trans HD.out)
   have cz : W2.cell? ⟨blk, off, none⟩ = some (.int .u8 (dk2[0]!.toNat : Int)) := (hz2 0 (by rw [HS2.out]; omega)).1
   have fz : W2.frozen? ⟨blk, off, none⟩ = false := (hz2 0 (by rw [HS2.out]; omega)).2
   generalize (dk2[0]!.toNat : Int) = yz at cz
   clear hz2
   have hH2 : Holds (fun (b : UInt8) => Value.int .u8 (b.toNat : Int)) W2 blk off dk2 := by rw [AW2.out]; exact holds_putRow _ w blk off d dk2 HH.out (HS2.out.trans HD.out)
   have c2a : W2.cell? ⟨blk, off + 2, none⟩ = some (.int .u8 (dk2[2]!.toNat : Int)) := (hH2 2 (by rw [HS2.out]; omega)).1
   have c2b : W2.cell? ⟨blk, off + 1, none⟩ = some (.int .u8 (dk2[1]!.toNat : Int)) := (hH2 1 (by rw [HS2.out]; omega)).1
   have f2a : W2.frozen? ⟨blk, off + 2, none⟩ = false := (hH2 2 (by rw [HS2.out]; omega)).2
   have f2b : W2.frozen? ⟨blk, off + 1, none⟩ = false := (hH2 1 (by rw [HS2.out]; omega)).2
   generalize (dk2[2]!.toNat : Int) = y2a at c2a
   generalize (dk2[1]!.toNat : Int) = y2b at c2b
   go_name_slot 16 x2 hx2
   have hlo2 : 0 ≤ x2 := by omega
   have hhi2 : x2 ≤ 198 := by omega
   have hXa2 : ∀ w, (Instr.index 9 (.string Lib.smalls) (.int .u32 (x2 + 1))).run Try.prog w = .ok (.int .u8 ((sm (x2 + 1).toNat).toNat : Int)) w := idx_smalls 9 Try.underlying9 .u32 _ _ (by omega) (by omega)
   have hXb2 : ∀ w, (Instr.index 9 (.string Lib.smalls) (.int .u32 x2)).run Try.prog w = .ok (.int .u8 ((sm x2.toNat).toNat : Int)) w := idx_smalls 9 Try.underlying9 .u32 _ _ (by omega) (by omega)
   clear hx2 hH2
   go_region_o
   go_wp2
   go_end0
   exact ⟨rfl, _, _, by rw [AW2.out]; exact store21_world w blk off dk2 n2 2 1 _ _ _ (u / 10000 / 100) (by omega) (by rw [HS2.out]; omega) (by rw [HS2.out]; omega), by simp [HS2.out]⟩
end Go.Proofs.Ytacbbpbopmdpeaa.B
/- internal/strconv.numDigits of 1 .. 10^6, whatever the table of powers holds: at most seven. -/
namespace Go.Proofs.Ytacbbpbopmdpeaa.B
open Go Go.Shelf Go.RowKit Go.Sort Go.Lib Go.Proofs.YtacbbpbopmdpeaaW.PrintWords
set_option linter.unusedVariables false
theorem cell_lt_w {w : World} {a : Addr} {v : Value} (h : w.cell? a = some v) : a.block < w.heap.size := by
 rcases Nat.lt_or_ge a.block w.heap.size with h' | h'
 ·exact h'
 ·simp [World.cell?, Array.getElem?_eq_none h'] at h
/-- What the walk asks of the library's table: its twenty cells hold some number. -/
def TabW (W : World) : Prop := ∀ i, i < 20 → ∃ m : Int, W.cell? ⟨0, i, none⟩ = some (.int .u64 m)
theorem TabW.alloc {W : World} (h : TabW W) (o : Obj) : TabW (W.alloc o) := fun i hi => by
 obtain ⟨m, e⟩ := h i hi
 exact ⟨m, (World.cell?_alloc_lt W o _ (cell_lt_w e)).trans e⟩
set_option maxHeartbeats 4000000 in
set_option maxRecDepth 100000 in
theorem numDigits_w (u : Nat) (h1 : 1 ≤ u) (h2 : u ≤ 1000000) (w : World) (HT : TabW w) :
  Calls Try.prog 83 #[.int .u64 u] w fun e w' => (∃ nd : Nat, e = .returned (.int .i64 nd) ∧ nd ≤ 7) ∧ w' = w := by
 have mixed : Try.prog.follows .mixedOrders = true := rfl
 have hL : Lib.bitLen u ≤ 20 := Lib.bitLen_le u 20 (by omega) (by omega)
 have hto : ((u : Int)).toNat = u := by omega
 have h6 : Lib.l10 (Lib.bitLen u) ≤ 6 := by unfold Lib.l10; omega
 obtain ⟨m, hcell⟩ := HT (Lib.l10 (Lib.bitLen u)) (by omega)
 have hL64 : Lib.bitLen u ≤ 64 := by omega
 clear HT
 generalize hq : Lib.l10 (Lib.bitLen u) = q at hcell h6
 go_enter Try.func83, Try.ntmps83
 go_wp2_with (first
  | (go_at_call 87; refine (Try.bits_Len64 _ _ (by omega) (by omega)).mono ?_; rintro e w' ⟨rfl, rfl⟩)
  | (go_at_call 86; refine (Try.internal_strconv_log10Pow2 _ (by first | exact hL64 | (rw [hto]; exact hL64)) _).mono ?_; rintro e w' ⟨rfl, rfl⟩)
  | (go_at_call 88; refine (Try.internal_strconv_bool2_int _ _).mono ?_; rintro e w' ⟨rfl, rfl⟩))
 all_goals go_ret
 ·exact ⟨⟨q + 1, rfl, by omega⟩, rfl⟩
 ·exact ⟨⟨q, rfl, by omega⟩, rfl⟩
end Go.Proofs.Ytacbbpbopmdpeaa.B
/- strconv.Itoa of -10^6 .. 10^6, whatever the table of powers holds: it ends with some text. -/
namespace Go.Proofs.Ytacbbpbopmdpeaa.B
open Go Go.Shelf Go.RowKit Go.Sort Go.Lib Go.Proofs.YtacbbpbopmdpeaaW.PrintWords
set_option linter.unusedVariables false

set_option maxHeartbeats 6400000 in
set_option maxRecDepth 100000 in
theorem formatInt_neg (u : Nat) (hu1 : 1 ≤ u) (hu : u ≤ 1000000) (w : World) (HT : TabW w) :
  Calls Try.prog 81 #[.int .i64 (-(u : Int)), .int .i64 10] w fun e w' => (∃ s, e = .returned (.string s) ∧ s.size ≤ 100) ∧ ∃ k os, w' = grow (w.drewN k) os := by
 have mixed : Try.prog.follows .mixedOrders = true := rfl
 have hwr : IntKind.u64.wrap (-IntKind.u64.wrap (-(u : Int))) = (u : Int) := by rw [IntKind.wrap_u64, IntKind.wrap_u64]; omega
 have hu0 : 1 ≤ u := by omega
 have HT1 := Aside0.mk (HT.alloc (.cells Lib.zeros24 111))
 clear HT
 go_enter Try.func81, Try.ntmps81
 go_wp2_with fail
 go_at_call 83
 refine (numDigits_w u hu0 hu _ HT1.out).mono ?_
 rintro e w' ⟨⟨nd, rfl, h7⟩, rfl⟩
 have hal : Try.prog.arrayLen 111 = 24 := rfl
 have hsl1 : ∀ W, (Instr.sliceAt 111 (.pointer (some ⟨w.heap.size, 0, none⟩)) (some (.int .i64 1)) (some (.int .i64 (1 + (nd : Int)))) none).run Try.prog W = .ok (.slice (some ⟨w.heap.size, 1, none⟩) nd 23) W := fun W => by
  rw [run_sliceAt_array_lh W 111 ⟨w.heap.size, 0, none⟩ rfl .i64 .i64 1 (1 + (nd : Int)) (by omega) (by omega) (by rw [hal]; omega)]
  go_simp
  omega
 have hH0 := Lib.holds_zero w 111 nd (by omega)
 have HF := Aside0.mk (fmt_w w.heap.size 1 23 u (Array.replicate nd 0) (w.alloc (.cells Lib.zeros24 111)) (Aside0.mk hH0) hu (by simpa using h7))
 have HH0 := Aside0.mk hH0
 clear hH0 hal
 go_wp2_with fail
 have hfmt := HF.out
 rw [Array.size_replicate] at hfmt
 go_at_call 84
 refine hfmt.mono ?_
 rintro e w' ⟨rfl, k, dk, rfl, hF⟩
 clear hsl1 hfmt
 have hc0 : ((putRow (fun (b : UInt8) => Value.int .u8 (b.toNat : Int)) (w.alloc (.cells Lib.zeros24 111)) w.heap.size 1 dk).drewN k).cell? ⟨w.heap.size, 0, none⟩ = some (.int .u8 0) := by
  rw [World.cell?_drewN, cell?_putRow_other _ _ _ _ _ _ (Or.inr (Or.inl (Nat.zero_lt_one))), World.cell?_alloc_new]
  exact Lib.zeros24_at 0 (by omega)
 have hf0 : ((putRow (fun (b : UInt8) => Value.int .u8 (b.toNat : Int)) (w.alloc (.cells Lib.zeros24 111)) w.heap.size 1 dk).drewN k).frozen? ⟨w.heap.size, 0, none⟩ = false := by
  rw [World.frozen?_drewN, frozen?_putRow]
  exact World.frozen?_alloc_new _ _ _ _
 have hal : Try.prog.arrayLen 111 = 24 := rfl
 have hsl2 : ∀ W, (Instr.sliceAt 111 (.pointer (some ⟨w.heap.size, 0, none⟩)) none (some (.int .i64 (1 + (nd : Int)))) none).run Try.prog W = .ok (.slice (some ⟨w.heap.size, 0, none⟩) (1 + nd) 24) W := fun W => by
  rw [run_sliceAt_array_h W 111 ⟨w.heap.size, 0, none⟩ rfl .i64 (1 + (nd : Int)) (by omega) (by rw [hal]; omega)]
  go_simp
  omega
 clear hal
 have hcv : (convert 22 9 (.slice (some ⟨w.heap.size, 0, none⟩) (1 + nd) 24)).run Try.prog (((putRow (fun (b : UInt8) => Value.int .u8 (b.toNat : Int)) (w.alloc (.cells Lib.zeros24 111)) w.heap.size 1 dk).drewN k).setCell ⟨w.heap.size, 0, none⟩ (.int .u8 45)) = .ok (.string ⟨(45 :: dk.toList).toArray⟩) (((putRow (fun (b : UInt8) => Value.int .u8 (b.toNat : Int)) (w.alloc (.cells Lib.zeros24 111)) w.heap.size 1 dk).drewN k).setCell ⟨w.heap.size, 0, none⟩ (.int .u8 45)) := by
  have h := run_convert_bytes_back (P := Try.prog) (((putRow (fun (b : UInt8) => Value.int .u8 (b.toNat : Int)) (w.alloc (.cells Lib.zeros24 111)) w.heap.size 1 dk).drewN k).setCell ⟨w.heap.size, 0, none⟩ (.int .u8 45)) 22 9 5 ⟨w.heap.size, 0, none⟩ 24 (45 :: dk.toList) rfl rfl rfl (fun j hj => by
   rw [Lib.add_plain]
   cases j with
   | zero => exact World.cell?_setCell_same _ _ _ hc0
   | succ i =>
    have hi : i < dk.size := by simpa using hj
    rw [World.cell?_setCell_other _ _ _ _ (by simp), List.getElem_cons_succ, World.cell?_drewN, show 0 + (i + 1) = 1 + i by omega, Array.getElem_toList, ← getElem!_pos dk i hi]
    exact cell?_putRow (fun (b : UInt8) => Value.int .u8 (b.toNat : Int)) _ w.heap.size 1 _ dk HH0.out (by rw [hF, Array.size_replicate]) i hi)
  rw [List.length_cons, Array.length_toList, hF, Nat.add_comm] at h
  exact h
 go_wp2_with fail
 go_ret
 obtain ⟨os, eo⟩ := Lib.fin_neg w (.cells Lib.zeros24 111) dk k (.int .u8 45)
 exact ⟨⟨_, rfl, by simp [ByteArray.size, hF]; omega⟩, k, os, eo⟩

set_option maxHeartbeats 6400000 in
set_option maxRecDepth 100000 in
theorem formatInt_pos (u : Nat) (hu1 : 100 ≤ u) (hu : u ≤ 1000000) (w : World) (HT : TabW w) :
  Calls Try.prog 81 #[.int .i64 ((u : Int)), .int .i64 10] w fun e w' => (∃ s, e = .returned (.string s) ∧ s.size ≤ 100) ∧ ∃ k os, w' = grow (w.drewN k) os := by
 have mixed : Try.prog.follows .mixedOrders = true := rfl
 have hu0 : 1 ≤ u := by omega
 have HT1 := Aside0.mk (HT.alloc (.cells Lib.zeros24 111))
 clear HT
 go_enter Try.func81, Try.ntmps81
 go_wp2_with fail
 go_at_call 83
 refine (numDigits_w u hu0 hu _ HT1.out).mono ?_
 rintro e w' ⟨⟨nd, rfl, h7⟩, rfl⟩
 have hal : Try.prog.arrayLen 111 = 24 := rfl
 have hsl1 : ∀ W, (Instr.sliceAt 111 (.pointer (some ⟨w.heap.size, 0, none⟩)) (some (.int .i64 1)) (some (.int .i64 (1 + (nd : Int)))) none).run Try.prog W = .ok (.slice (some ⟨w.heap.size, 1, none⟩) nd 23) W := fun W => by
  rw [run_sliceAt_array_lh W 111 ⟨w.heap.size, 0, none⟩ rfl .i64 .i64 1 (1 + (nd : Int)) (by omega) (by omega) (by rw [hal]; omega)]
  go_simp
  omega
 have hH0 := Lib.holds_zero w 111 nd (by omega)
 have HF := Aside0.mk (fmt_w w.heap.size 1 23 u (Array.replicate nd 0) (w.alloc (.cells Lib.zeros24 111)) (Aside0.mk hH0) hu (by simpa using h7))
 have HH0 := Aside0.mk hH0
 clear hH0 hal
 go_wp2_with fail
 have hfmt := HF.out
 rw [Array.size_replicate] at hfmt
 go_at_call 84
 refine hfmt.mono ?_
 rintro e w' ⟨rfl, k, dk, rfl, hF⟩
 clear hsl1 hfmt
 have hal : Try.prog.arrayLen 111 = 24 := rfl
 have hsl2 : ∀ W, (Instr.sliceAt 111 (.pointer (some ⟨w.heap.size, 0, none⟩)) (some (.int .i64 1)) (some (.int .i64 (1 + (nd : Int)))) none).run Try.prog W = .ok (.slice (some ⟨w.heap.size, 1, none⟩) nd 23) W := fun W => by
  rw [run_sliceAt_array_lh W 111 ⟨w.heap.size, 0, none⟩ rfl .i64 .i64 1 (1 + (nd : Int)) (by omega) (by omega) (by rw [hal]; omega)]
  go_simp
  omega
 clear hal
 have hcv : (convert 22 9 (.slice (some ⟨w.heap.size, 1, none⟩) nd 23)).run Try.prog ((putRow (fun (b : UInt8) => Value.int .u8 (b.toNat : Int)) (w.alloc (.cells Lib.zeros24 111)) w.heap.size 1 dk).drewN k) = .ok (.string ⟨dk.toList.toArray⟩) ((putRow (fun (b : UInt8) => Value.int .u8 (b.toNat : Int)) (w.alloc (.cells Lib.zeros24 111)) w.heap.size 1 dk).drewN k) := by
  have h := run_convert_bytes_back (P := Try.prog) ((putRow (fun (b : UInt8) => Value.int .u8 (b.toNat : Int)) (w.alloc (.cells Lib.zeros24 111)) w.heap.size 1 dk).drewN k) 22 9 5 ⟨w.heap.size, 1, none⟩ 23 dk.toList rfl rfl rfl (fun j hj => by
   have hi : j < dk.size := by simpa using hj
   rw [Lib.add_plain, World.cell?_drewN, Array.getElem_toList, ← getElem!_pos dk j hi]
   exact cell?_putRow (fun (b : UInt8) => Value.int .u8 (b.toNat : Int)) _ w.heap.size 1 _ dk HH0.out (by rw [hF, Array.size_replicate]) j hi)
  rw [Array.length_toList, hF] at h
  exact h
 go_wp2_with fail
 go_ret
 obtain ⟨os, eo⟩ := Lib.fin_pos w (.cells Lib.zeros24 111) dk k
 exact ⟨⟨_, rfl, by simp [ByteArray.size, hF]; omega⟩, k, os, eo⟩

set_option maxRecDepth 100000 in
theorem formatInt_w (n : Int) (h0 : -1000000 ≤ n) (h1 : n ≤ 1000000) (w : World) (HT : TabW w) :
  Calls Try.prog 81 #[.int .i64 n, .int .i64 10] w fun e w' => (∃ s, e = .returned (.string s) ∧ s.size ≤ 100) ∧ ∃ k os, w' = grow (w.drewN k) os := by
 by_cases hn : n < 0
 ·obtain ⟨u, rfl⟩ : ∃ u : Nat, n = -(u : Int) := ⟨n.natAbs, by omega⟩
  exact formatInt_neg u (by omega) (by omega) w HT
 ·obtain ⟨u, rfl⟩ : ∃ u : Nat, n = u := ⟨n.toNat, by omega⟩
  by_cases hs : u < 100
  ·have mixed : Try.prog.follows .mixedOrders = true := rfl
   clear HT
   go_enter Try.func81, Try.ntmps81
   go_wp2_with (go_at_call 82; refine (Try.internal_strconv_small u hs _).mono ?_; rintro e w' ⟨rfl, rfl⟩)
   go_ret
   exact ⟨⟨_, rfl, by have := (by decide +kernel : ∀ i : Fin 100, (Lib.decDigits i.val).length ≤ 2) ⟨u, hs⟩; simp only [ByteArray.size, List.size_toArray]; simp only at this; omega⟩, 0, #[], by simp [World.drewN_zero]⟩
  ·exact formatInt_pos u (by omega) (by omega) w HT

set_option maxRecDepth 100000 in
theorem itoa1_w (n : Int) (h0 : -1000000 ≤ n) (h1 : n ≤ 1000000) (w : World) (HT : TabW w) :
  Calls Try.prog 80 #[.int .i64 n] w fun e w' => (∃ s, e = .returned (.string s) ∧ s.size ≤ 100) ∧ ∃ k os, w' = grow (w.drewN k) os := by
 have mixed : Try.prog.follows .mixedOrders = true := rfl
 go_enter Try.func80, Try.ntmps80
 go_wp2_with (go_at_call 81; refine (formatInt_w n h0 h1 _ HT).mono ?_; rintro e w' ⟨⟨s, rfl, hs9⟩, k, os, rfl⟩)
 go_ret
 exact ⟨⟨s, rfl, hs9⟩, k, os, rfl⟩

set_option maxRecDepth 100000 in
/-- strconv.Itoa: some text; the world grows. -/
theorem itoa_w (n : Int) (h0 : -1000000 ≤ n) (h1 : n ≤ 1000000) (w : World) (HT : TabW w) :
  Calls Try.prog 79 #[.int .i64 n] w fun e w' => (∃ s, e = .returned (.string s) ∧ s.size ≤ 100) ∧ ∃ k os, w' = grow (w.drewN k) os := by
 have mixed : Try.prog.follows .mixedOrders = true := rfl
 go_enter Try.func79, Try.ntmps79
 go_wp2_with (go_at_call 80; refine (itoa1_w n h0 h1 _ HT).mono ?_; rintro e w' ⟨⟨s, rfl, hs9⟩, k, os, rfl⟩)
 go_ret
 exact ⟨⟨s, rfl, hs9⟩, k, os, rfl⟩
end Go.Proofs.Ytacbbpbopmdpeaa.B
/- The library's table of powers: its twenty cells hold some numbers, by the world's shape. -/
namespace Go.Proofs.Ytacbbpbopmdpeaa.B
open Go
set_option maxRecDepth 100000 in
theorem TabW.of_shape {w : World} (h : w.ShapedOpen Try.prog) : TabW w := by
 obtain ⟨zero, h0, hz⟩ : ∃ zero, ((begin Try.prog (fun _ _ => 0) default).world.heap[0]?).bind Obj.row? = some (zero, 117) ∧ zero.size = 20 := ⟨#[.int .u64 0, .int .u64 0, .int .u64 0, .int .u64 0, .int .u64 0, .int .u64 0, .int .u64 0, .int .u64 0, .int .u64 0, .int .u64 0, .int .u64 0, .int .u64 0, .int .u64 0, .int .u64 0, .int .u64 0, .int .u64 0, .int .u64 0, .int .u64 0, .int .u64 0, .int .u64 0], by kernel_rfl, rfl⟩
 obtain ⟨cs, hh, hs, hr⟩ := h.1 0 zero 117 (of_decide_eq_true (by kernel_rfl)) h0
 obtain ⟨ts, hts, _, hall⟩ := hr (by kernel_rfl)
 obtain ⟨ts', e1, e2⟩ : ∃ ts', Try.prog.cellTypes Try.prog.depth 117 = some ts' ∧ ts' = List.replicate 20 112 := ⟨List.replicate 20 112, by kernel_rfl, rfl⟩
 rw [e1] at hts
 cases hts
 subst e2
 intro i hi
 have hi' : i < cs.size := by omega
 obtain ⟨u, hu, hok⟩ := hall i cs[i] (by simp [hi'])
 have hi20 : i % 20 = i := Nat.mod_eq_of_lt hi
 rw [List.length_replicate, hi20, List.getElem?_replicate, if_pos hi] at hu
 cases hu
 have hcell : w.cell? ⟨0, i, none⟩ = some cs[i] := by simp [World.cell?, hh, hi']
 rw [hcell]
 unfold Cell.ok at hok
 rw [show Try.prog.underlying 112 = some (.int .u64) from Try.underlying112] at hok
 cases hv : cs[i] with
 | int k m =>
  rw [hv] at hok
  obtain ⟨rfl, _⟩ : k = .u64 ∧ IntKind.u64.has m := hok
  exact ⟨m, rfl⟩
 | _ => rw [hv] at hok; simp at hok
end Go.Proofs.Ytacbbpbopmdpeaa.B
