/- strconv.Itoa where the library's table is told; a place's text. -/
import Derived.Test.YtddnijmgipffeaaDoorShelfI
import Derived.Test.YtddnijmgipffeaaDoorBox
import Derived.Test.YtddnijmgipffeaaDoorDecPure
import Derived.Test.YtddnijmgipffeaaDoorF24
import Derived.Test.YtddnijmgipffeaaDoorF25
import Derived.Lib.AppendIntMem
import Derived.Lib.ItoaMem
namespace Go.Proofs.YtddnijmgipffeaaDoor.B
open Go Go.RowKit Go.Shelf Go.Lib Go.Proofs.YtddnijmgipffeaaDoorW.PrintWords Go.Proofs.YtddnijmgipffeaaDoorW.PrintLast Go.Proofs.YtddnijmgipffeaaDoorW.PrintMore
set_option linter.unusedVariables false
def TabT (w : World) : Prop := Lib.TabIs Tryd.prog w "internal/strconv.uint64pow10" .u64 Lib.pow10Tab
theorem TabT.below {W W' : World} (h : TabT W) (hb : Below W.heap.size W W') : TabT W' := by
  unfold TabT Lib.TabIs World.var? at *
  cases hg : Tryd.prog.globalNamed "internal/strconv.uint64pow10" with
  | none => simp [hg] at h
  | some g =>
    simp only [hg, Option.bind_some] at h ⊢
    have hlt : g < W.heap.size := by
      rcases Nat.lt_or_ge g W.heap.size with h' | h'
      · exact h'
      · simp [Array.getElem?_eq_none h'] at h
    rw [hb.block g hlt]
    exact h
theorem TabT.lasts : Lasts TabT := fun _ _ hb h => h.below hb
theorem itoaT_b (n : Int) (h0 : -9223372036854775808 ≤ n) (h1 : n ≤ 9223372036854775807) (w : World) (HT : TabT w) :
    Calls Tryd.prog 17 #[.int .i64 n] w fun e w' => e = .returned (.string ⟨(itoa n).toArray⟩) ∧ Below w.heap.size w w' :=
  (Tryd.strconv_Itoa n h0 h1 w HT).mono fun e w' h => ⟨h.1, by
    obtain ⟨k, os, rfl⟩ := h.2
    exact Go.Lib.below_grow _ _ (Nat.le_refl _) k os⟩
theorem itoa_len (n : Int) (h0 : -9223372036854775808 ≤ n) (h1 : n ≤ 9223372036854775807) : (itoa n).length ≤ 21 := by
  unfold itoa
  split
  · have := nDigits_le20 n.natAbs (by omega)
    rw [List.length_cons, decDigits_length]; omega
  · have := nDigits_le20 n.toNat (by omega)
    rw [decDigits_length]; omega
end Go.Proofs.YtddnijmgipffeaaDoor.B
