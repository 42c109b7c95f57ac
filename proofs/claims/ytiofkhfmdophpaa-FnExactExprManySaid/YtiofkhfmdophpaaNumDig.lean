/- internal/strconv.numDigits of 1 .. 10^6, whatever the table of powers holds: at most seven. -/
import Derived.Test.YtiofkhfmdophpaaB0
import Derived.Test.YtiofkhfmdophpaaShelfI
import Derived.Lib.Walk
import Derived.Lib.ItoaWalk
import Derived.Lib.ItoaNum
import Derived.WalkKit
import Derived.BigCall
namespace Go.Proofs.Ytiofkhfmdophpaa.B
open Go Go.Shelf Go.RowKit Go.Sort Go.Lib Go.Proofs.YtiofkhfmdophpaaW.PrintWords
set_option linter.unusedVariables false
theorem cell_lt_w {w : World} {a : Addr} {v : Value} (h : w.cell? a = some v) : a.block < w.heap.size := by
 rcases Nat.lt_or_ge a.block w.heap.size with h' | h'
 ·exact h'
 ·simp [World.cell?, Array.getElem?_eq_none h'] at h
/-- What the walk asks of the library's table: its twenty cells hold some number. -/
def TabW (W : World) : Prop := ∀ i, i < 20 → ∃ m : Int, W.cell? ⟨1, i, none⟩ = some (.int .u64 m)
theorem TabW.alloc {W : World} (h : TabW W) (o : Obj) : TabW (W.alloc o) := fun i hi => by
 obtain ⟨m, e⟩ := h i hi
 exact ⟨m, (World.cell?_alloc_lt W o _ (cell_lt_w e)).trans e⟩
set_option maxHeartbeats 4000000 in
set_option maxRecDepth 100000 in
theorem numDigits_w (u : Nat) (h1 : 1 ≤ u) (h2 : u ≤ 1000000) (w : World) (HT : TabW w) :
  Calls Try.prog 161 #[.int .u64 u] w fun e w' => (∃ nd : Nat, e = .returned (.int .i64 nd) ∧ nd ≤ 7) ∧ w' = w := by
 have mixed : Try.prog.follows .mixedOrders = true := rfl
 have hL : Lib.bitLen u ≤ 20 := Lib.bitLen_le u 20 (by omega) (by omega)
 have hto : ((u : Int)).toNat = u := by omega
 have h6 : Lib.l10 (Lib.bitLen u) ≤ 6 := by unfold Lib.l10; omega
 obtain ⟨m, hcell⟩ := HT (Lib.l10 (Lib.bitLen u)) (by omega)
 have hL64 : Lib.bitLen u ≤ 64 := by omega
 clear HT
 generalize hq : Lib.l10 (Lib.bitLen u) = q at hcell h6
 go_enter Try.func161, Try.ntmps161
 go_wp2_with (first
  | (go_at_call 165; refine (Try.bits_Len64 _ _ (by omega) (by omega)).mono ?_; rintro e w' ⟨rfl, rfl⟩)
  | (go_at_call 164; refine (Try.internal_strconv_log10Pow2 _ (by first | exact hL64 | (rw [hto]; exact hL64)) _).mono ?_; rintro e w' ⟨rfl, rfl⟩)
  | (go_at_call 166; refine (Try.internal_strconv_bool2_int _ _).mono ?_; rintro e w' ⟨rfl, rfl⟩))
 all_goals go_ret
 ·exact ⟨⟨q + 1, rfl, by omega⟩, rfl⟩
 ·exact ⟨⟨q, rfl, by omega⟩, rfl⟩
end Go.Proofs.Ytiofkhfmdophpaa.B
