/- impl.AddrText, exactly: where the library's table is told. -/
import Derived.Test.YtddnijmgipffeaaDoorItoaT
namespace Go.Proofs.YtddnijmgipffeaaDoor.B
open Go Go.RowKit Go.Shelf Go.Lib Go.Proofs.YtddnijmgipffeaaDoorW.PrintWords Go.Proofs.YtddnijmgipffeaaDoorW.PrintLast Go.Proofs.YtddnijmgipffeaaDoorW.PrintMore
set_option linter.unusedVariables false
def letL (k : Int) : List UInt8 := if k = 1 then [105] else if k = 2 then [111] else [118]
def okA (k a : Int) : Bool := decide (1 ≤ k ∧ k ≤ 3 ∧ 0 ≤ a ∧ a < 6)
def addrT (k a : Int) : List UInt8 := if okA k a = true then letL k ++ itoa a else []
theorem okA_any (k a : Int) (w : World) : Calls Tryd.prog 24 #[.agg #[.int .i64 k, .int .i64 a]] w fun e w' => e = .returned (.bool (okA k a)) ∧ Below w.heap.size w w' := by
  refine impl_AddrOk.calls k a _ w ?_
  unfold impl_AddrOk.f okA
  by_cases h1 : 1 ≤ k <;> by_cases h2 : k ≤ 3 <;> by_cases h3 : 0 ≤ a <;> by_cases h4 : a < 6 <;> simp [h1, h2, h3, h4]
theorem letT_any (k a : Int) (h : okA k a = true) (w : World) : Calls Tryd.prog 25 #[.agg #[.int .i64 k, .int .i64 a]] w fun e w' => e = .returned (.string ⟨(letL k).toArray⟩) ∧ Below w.heap.size w w' := by
  have h' : 1 ≤ k ∧ k ≤ 3 ∧ 0 ≤ a ∧ a < 6 := of_decide_eq_true h
  refine impl_Addr_letter.calls k a _ w ?_
  rcases (show k = 1 ∨ k = 2 ∨ k = 3 by omega) with rfl | rfl | rfl <;> (clear h h'; revert a; intro a; exact (show _ = _ from by unfold impl_Addr_letter.f; decide +kernel))
set_option maxRecDepth 100000 in
theorem addrT_any (k a : Int) (w : World) (HT : TabT w) : Calls Tryd.prog 18 #[.agg #[.int .i64 k, .int .i64 a]] w fun e w' => e = .returned (.string ⟨(addrT k a).toArray⟩) ∧ Below w.heap.size w w' := by
  have mixed : Tryd.prog.follows .mixedOrders = true := rfl
  have HT := Aside0.mk HT
  go_enter Tryd.func18, Tryd.ntmps18
  go_wp2_with fail
  obtain ⟨k1, hB0⟩ := (show (w.alloc (.cells #[.int .i64 k, .int .i64 a] 31 (0, 0))).heap[w.heap.size]? = some (.cells #[.int .i64 k, .int .i64 a] 31 (0, 0)) ∧ Below w.heap.size w (w.alloc (.cells #[.int .i64 k, .int .i64 a] 31 (0, 0))) from ⟨heap_alloc_new _ _, (Below.refl _ _).alloc (Nat.le_refl _) _⟩)
  refine (okA_any _ _ _).mono ?_
  rintro e w1 ⟨rfl, hb1⟩
  have H1 := Aside0.mk (And.intro (blk_below k1 hb1) (And.intro (hB0.trans (hb1.mono hB0.size)) (HT.out.below (hB0.trans (hb1.mono hB0.size)))))
  clear k1 hB0 hb1
  generalize w1 = W1 at H1 ⊢
  cases ho : okA k a with
  | false =>
    have HA := Aside0.mk ho
    clear ho
    go_wp2
    go_ret
    exact ⟨by rw [addrT, HA.out]; rfl, H1.out.2.1⟩
  | true =>
    have h' : 1 ≤ k ∧ k ≤ 3 ∧ 0 ≤ a ∧ a < 6 := of_decide_eq_true ho
    have HA := Aside0.mk ho
    clear ho
    go_wp2_with fail
    refine weaveB_ (fun W => Below W1.heap.size W1 W) (Lasts.below W1) (Below.refl _ _) [(6, 0), (7, 1), (8, 2), (9, 3), (10, 4), (11, 5), (2, 6)] [fun v _ => v = .agg #[.int .i64 k, .int .i64 a], fun v _ => v = .string ⟨(letL k).toArray⟩, fun v _ => v = .pointer (some ⟨w.heap.size, 1, none⟩), fun v _ => v = .int .i64 a, fun v _ => v = .string ⟨(itoa a).toArray⟩, fun v _ => v = .string ⟨(letL k ++ itoa a).toArray⟩, fun v _ => v = .string ⟨(letL k ++ itoa a).toArray⟩] mixed (by kernel_rfl) ⟨fun _ => Lasts.const _, fun _ => Lasts.const _, fun _ => Lasts.const _, fun _ => Lasts.const _, fun _ => Lasts.const _, fun _ => Lasts.const _, fun _ => Lasts.const _, trivial⟩ ?_ ?_
    · refine ⟨?_, ?_, ?_, ?_, ?_, ?_, ?_, trivial⟩
      · intro vs W hp hv b hs
        exact stepGet rfl rfl ((hs.old 1 rfl).trans rfl) (blk_below H1.out.1 hp) Tryd.underlying31 rfl (by kernel_rfl) ⟨Below.refl _ _, rfl⟩
      · intro vs W hp hv b hs
        have h0 : vs 0 = .agg #[.int .i64 k, .int .i64 a] := hv 0 (by decide)
        refine stepCall rfl Tryd.func25 (by kernel_rfl) rfl #[vs 0] rfl (by simp [Act.eval, hs.tm 6 0 rfl]) (by rw [h0]; exact letT_any k a HA.out W) ?_
        rintro e W' ⟨rfl, hb'⟩
        exact ⟨_, rfl, hb', rfl⟩
      · intro vs W hp hv b hs
        have t1 := (hs.oldtm 1 rfl).trans (show _ = some (Value.pointer (some ⟨w.heap.size, 0, none⟩)) from rfl)
        exact stepVal rfl (by go_simp) ⟨Below.refl _ _, rfl⟩
      · intro vs W hp hv b hs
        have h2 : vs 2 = .pointer (some ⟨w.heap.size, 1, none⟩) := hv 2 (by decide)
        have t8 := (hs.tm 8 2 rfl).trans (congrArg some h2)
        have c1 := (Box.cell (blk_below H1.out.1 hp) 1 _ rfl).1
        exact stepVal rfl (by go_simp) ⟨Below.refl _ _, rfl⟩
      · intro vs W hp hv b hs
        have h3 : vs 3 = .int .i64 a := hv 3 (by decide)
        refine stepCall rfl Tryd.func17 (by kernel_rfl) rfl #[vs 3] rfl (by simp [Act.eval, hs.tm 9 3 rfl]) (by rw [h3]; exact itoaT_b a (by omega) (by omega) W (H1.out.2.2.below hp)) ?_
        rintro e W' ⟨rfl, hb'⟩
        exact ⟨_, rfl, hb', rfl⟩
      · intro vs W hp hv b hs
        have h1 : vs 1 = .string ⟨(letL k).toArray⟩ := hv 1 (by decide)
        have h4 : vs 4 = .string ⟨(itoa a).toArray⟩ := hv 4 (by decide)
        have t7 := (hs.tm 7 1 rfl).trans (congrArg some h1)
        have t10 := (hs.tm 10 4 rfl).trans (congrArg some h4)
        have hl := itoa_len a (by omega) (by omega)
        have hk : (letL k).length ≤ 1 := by unfold letL; (repeat' split) <;> simp
        have z1 : (⟨(letL k).toArray⟩ : ByteArray).size ≤ 1 := by rw [ba_size]; exact hk
        have z2 : (⟨(itoa a).toArray⟩ : ByteArray).size ≤ 21 := by rw [ba_size]; exact hl
        rw [← ba_app]
        generalize (⟨(letL k).toArray⟩ : ByteArray) = s1 at *
        generalize (⟨(itoa a).toArray⟩ : ByteArray) = s2 at *
        exact stepVal (v := .string (s1 ++ s2)) rfl (by go_simp; omega) ⟨Below.refl _ _, rfl⟩
      · intro vs W hp hv b hs
        have h5 : vs 5 = .string ⟨(letL k ++ itoa a).toArray⟩ := hv 5 (by decide)
        have t11 := (hs.tm 11 5 rfl).trans (congrArg some h5)
        exact stepVal rfl (by go_simp) ⟨Below.refl _ _, rfl⟩
    · intro vs W hp hv
      have h6 : vs 6 = .string ⟨(letL k ++ itoa a).toArray⟩ := hv 6 (by decide)
      have HE := Aside0.mk (show Below w.heap.size w W from H1.out.2.1.trans (hp.mono H1.out.2.1.size))
      simp only [List.map_cons, List.map_nil, putL, Act.put, List.setIfInBounds_toArray, List.set_cons_zero, List.set_cons_succ, h6]
      clear hv hp
      go_wp2_with fail
      go_ret
      exact ⟨by rw [addrT, if_pos HA.out]; rfl, HE.out⟩
end Go.Proofs.YtddnijmgipffeaaDoor.B
