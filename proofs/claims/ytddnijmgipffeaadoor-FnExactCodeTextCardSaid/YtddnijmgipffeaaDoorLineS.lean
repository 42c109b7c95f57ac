/- spec.l5Line, exactly. -/
import Derived.Test.YtddnijmgipffeaaDoorLineT
import Derived.Test.YtddnijmgipffeaaDoorF14
import Derived.Test.YtddnijmgipffeaaDoorF15
namespace Go.Proofs.YtddnijmgipffeaaDoor.B
open Go Go.RowKit Go.Shelf Go.Lib Go.Proofs.YtddnijmgipffeaaDoorW.PrintWords Go.Proofs.YtddnijmgipffeaaDoorW.PrintLast Go.Proofs.YtddnijmgipffeaaDoorW.PrintMore
set_option linter.unusedVariables false
theorem decS_any (n : Int) (h0 : -9223372036854775808 ≤ n) (h1 : n ≤ 9223372036854775807) (w : World) : Calls Tryd.prog 13 #[.int .i64 n] w fun e w' => e = .returned (.string ⟨(itoa n).toArray⟩) ∧ Below w.heap.size w w' := by
  obtain ⟨k, hk⟩ := dec_eq n h0 h1
  exact spec_l12Dec.calls k n _ w hk
theorem one_more {s b : ByteArray} (hs : s.size ≤ 21) (hb : b.size = 1) : b.size + s.size ≤ 9223372036854775807 := by omega
set_option maxRecDepth 100000 in
theorem addrS_f (k a : Int) : ∃ q, spec_AddrText.f q k a = some ⟨(addrT k a).toArray⟩ := by
  by_cases h : 1 ≤ k ∧ k ≤ 3 ∧ 0 ≤ a ∧ a < 6
  · obtain ⟨q, hq⟩ := dec_eq a (by omega) (by omega)
    have hl := itoa_len a (by omega) (by omega)
    refine ⟨q, ?_⟩
    have hs : (⟨(itoa a).toArray⟩ : ByteArray).size ≤ 21 := by rw [ba_size]; exact hl
    unfold spec_AddrText.f
    rw [show spec_AddrOk.f k a = some true by unfold spec_AddrOk.f; simp [h.1, h.2.1, h.2.2.1, h.2.2.2]]
    rw [hq]
    have ho : okA k a = true := decide_eq_true h
    rw [addrT, if_pos ho, ← ba_app]
    generalize (⟨(itoa a).toArray⟩ : ByteArray) = s at *
    rcases (show k = 1 ∨ k = 2 ∨ k = 3 by omega) with rfl | rfl | rfl
    all_goals (rw [Option.bind_some, if_pos rfl, Option.bind_some, if_pos (by decide), if_pos (by decide), Option.bind_some, if_pos (one_more hs rfl)]; rfl)
  · refine ⟨0, ?_⟩
    have ho : okA k a = false := decide_eq_false h
    rw [addrT, ho]
    unfold spec_AddrText.f
    rw [show spec_AddrOk.f k a = some false by unfold spec_AddrOk.f; by_cases h1 : 1 ≤ k <;> by_cases h2 : k ≤ 3 <;> by_cases h3 : 0 ≤ a <;> by_cases h4 : a < 6 <;> simp [h1, h2, h3, h4] <;> omega]
    rfl
theorem addrS_any (k a : Int) (w : World) : Calls Tryd.prog 14 #[.agg #[.int .i64 k, .int .i64 a]] w fun e w' => e = .returned (.string ⟨(addrT k a).toArray⟩) ∧ Below w.heap.size w w' := by
  obtain ⟨q, hq⟩ := addrS_f k a
  exact spec_AddrText.calls q k a _ w hq
end Go.Proofs.YtddnijmgipffeaaDoor.B
