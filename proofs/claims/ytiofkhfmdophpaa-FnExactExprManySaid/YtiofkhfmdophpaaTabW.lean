/- The library's table of powers: its twenty cells hold some numbers, by the world's shape. -/
import Derived.Test.YtiofkhfmdophpaaNumDig
import GoSem.Claims
namespace Go.Proofs.Ytiofkhfmdophpaa.B
open Go
set_option maxRecDepth 100000 in
theorem TabW.of_shape {w : World} (h : w.ShapedOpen Try.prog) : TabW w := by
 obtain ⟨zero, h0, hz⟩ : ∃ zero, ((begin Try.prog (fun _ _ => 0) default).world.heap[1]?).bind Obj.row? = some (zero, 167) ∧ zero.size = 20 := ⟨#[.int .u64 0, .int .u64 0, .int .u64 0, .int .u64 0, .int .u64 0, .int .u64 0, .int .u64 0, .int .u64 0, .int .u64 0, .int .u64 0, .int .u64 0, .int .u64 0, .int .u64 0, .int .u64 0, .int .u64 0, .int .u64 0, .int .u64 0, .int .u64 0, .int .u64 0, .int .u64 0], by kernel_rfl, rfl⟩
 obtain ⟨cs, hh, hs, hr⟩ := h.1 1 zero 167 (of_decide_eq_true (by kernel_rfl)) h0
 obtain ⟨ts, hts, _, hall⟩ := hr (by kernel_rfl)
 obtain ⟨ts', e1, e2⟩ : ∃ ts', Try.prog.cellTypes Try.prog.depth 167 = some ts' ∧ ts' = List.replicate 20 162 := ⟨List.replicate 20 162, by kernel_rfl, rfl⟩
 rw [e1] at hts
 cases hts
 subst e2
 intro i hi
 have hi' : i < cs.size := by omega
 obtain ⟨u, hu, hok⟩ := hall i cs[i] (by simp [hi'])
 have hi20 : i % 20 = i := Nat.mod_eq_of_lt hi
 rw [List.length_replicate, hi20, List.getElem?_replicate, if_pos hi] at hu
 cases hu
 have hcell : w.cell? ⟨1, i, none⟩ = some cs[i] := by simp [World.cell?, hh, hi']
 rw [hcell]
 unfold Cell.ok at hok
 rw [show Try.prog.underlying 162 = some (.int .u64) from Try.underlying162] at hok
 cases hv : cs[i] with
 | int k m =>
  rw [hv] at hok
  obtain ⟨rfl, _⟩ : k = .u64 ∧ IntKind.u64.has m := hok
  exact ⟨m, rfl⟩
 | _ => rw [hv] at hok; simp at hok
end Go.Proofs.Ytiofkhfmdophpaa.B
