-- printed by base.py (this claim's tool) over the kit's print
import Derived.Test.YtddnijmgipffeaaProg
import Derived.Below
import Derived.Deep.Draws
import Derived.Deep.AppendLies
import Derived.Maps.AppendAt
import Derived.OwnWalk
import Derived.Laws.BytesArg
import Derived.Laws.MakeOwn
import Derived.Laws.OwnMore
import Derived.Deep.OwnRows
import Derived.Tactics
import Derived.Lib.ConvBytes
import Derived.Laws.Slices
import Derived.WalkKit
import Derived.KernelRfl
import Derived.RowKit3
import Derived.Deep.LoopGhost
import Derived.Deep.QuietTactic
import Derived.BigQuiet
import Derived.WideLaws
import Derived.Deep.DeepCutAuto
import Derived.Deep.CutBlock
import Derived.Deep.RegionHeld3
import Derived.Laws.Rows
import Derived.Lib.AppendStr
import Derived.ArgAppend
import Derived.Laws.IdiomCopy
import Derived.OrdersHeld
import Derived.Laws.BitsLemmas
import Derived.RowKit
import Derived.Test.YtddnijmgipffeaaWWords
import Derived.Test.YtddnijmgipffeaaWLast
import Derived.Test.YtddnijmgipffeaaWTab
import Derived.Test.YtddnijmgipffeaaWFour
import Derived.Test.YtddnijmgipffeaaWQPut
import Derived.Test.YtddnijmgipffeaaWApart
import Derived.Test.YtddnijmgipffeaaWArr
import Derived.Test.YtddnijmgipffeaaWZeros
import Derived.Test.YtddnijmgipffeaaWFoot
import Derived.Test.YtddnijmgipffeaaWKept
import Derived.Test.YtddnijmgipffeaaWShare
import Derived.Test.YtddnijmgipffeaaWN
import Derived.Test.YtddnijmgipffeaaWFootNe
import Derived.Test.YtddnijmgipffeaaWAt
import Derived.Test.YtddnijmgipffeaaWEqStruct
import Derived.Test.YtddnijmgipffeaaWRepsOne
import Derived.Test.YtddnijmgipffeaaWInv
import Derived.Test.YtddnijmgipffeaaWInvWords
import Derived.Test.YtddnijmgipffeaaWGuard
import Derived.Test.YtddnijmgipffeaaWNEv
import Derived.Test.YtddnijmgipffeaaWMore
namespace Go.Proofs.Ytddnijmgipffeaa.B
open Go.RowKit Go.Proofs.YtddnijmgipffeaaW.PrintWords Go.Proofs.YtddnijmgipffeaaW.PrintLast Go.Proofs.YtddnijmgipffeaaW.PrintMore
attribute [local go_sem] max2_int min2_int max_two min_two max_three min_three max_four min_four   -- for this text's walks alone
set_option linter.unusedVariables false
set_option linter.unusedSimpArgs false

theorem info5 : (Try.prog.info? 5).map (fun i => (i.zero, i.size, i.bytes)) = some (some (.int .u8 0), 1, 1) := by kernel_rfl
theorem info39 : (Try.prog.info? 39).map (fun i => (i.zero, i.size, i.bytes)) = some (some (.agg #[(.int .i64 0), (.int .i64 0), (.int .i64 0), (.int .i64 0)]), 4, 32) := by kernel_rfl
theorem info46 : (Try.prog.info? 46).map (fun i => (i.zero, i.size, i.bytes)) = some (some (.agg #[(.int .i64 0), (.int .i64 0), (.int .i64 0), (.int .i64 0), (.slice none 0 0)]), 5, 56) := by kernel_rfl
theorem info69 : (Try.prog.info? 69).map (fun i => (i.zero, i.size, i.bytes)) = some (some (.agg #[(.int .i64 0), (.int .i64 0), (.int .i64 0), (.int .i64 0), (.int .i64 0), (.int .i64 0), (.int .i64 0), (.slice none 0 0), (.slice none 0 0), (.slice none 0 0)]), 10, 128) := by kernel_rfl
-- the values' own types
/-! #### struct type 61 -/
structure S61 where
  f0 : Int
  f1 : Int
/-! #### struct type 64, nested in itself -/
structure S64 where
  f0 : Int
  f1 : Int
  f2 : S61
  f3 : (List S64)
/-! #### struct type 66, nested in itself -/
structure S66 where
  f0 : Int
  f1 : S61
  f2 : S64
  f3 : (List S66)
  f4 : (List S66)
/-! #### struct type 37 -/
structure S37 where
  f0 : Int
  f1 : Int
def z37 : S37 := ⟨(0 : Int), (0 : Int)⟩
def k37 : Kd S37 := Kd.iso (Kd.pair (Kd.int .i64) (Kd.int .i64)) (fun x : S37 => (x.f0, x.f1))
theorem k37_open {w : World} {x : S37} {cs : List Value} (h : k37.K w x cs) : cs = [.int .i64 x.f0, .int .i64 x.f1] := by
  obtain ⟨_, _, rfl, rfl, rfl⟩ := h
  exact rfl
theorem k37_openM {w : World} {base : Nat} {ok : Nat → Prop} {x : S37} {cs : List Value} (h : k37.M w base ok x cs) : cs = [.int .i64 x.f0, .int .i64 x.f1] := by
  obtain ⟨_, _, rfl, rfl, rfl⟩ := h
  exact rfl
theorem k37_mk (w : World) (x : S37)  : k37.K w x [.int .i64 x.f0, .int .i64 x.f1] := ⟨[.int .i64 x.f0], [.int .i64 x.f1], rfl, rfl, rfl⟩
theorem k37_mkM (w : World) (base : Nat) (ok : Nat → Prop) (x : S37)  : k37.M w base ok x [.int .i64 x.f0, .int .i64 x.f1] := ⟨[.int .i64 x.f0], [.int .i64 x.f1], rfl, rfl, rfl⟩
/-! #### struct type 46, nested in itself -/
structure S46 where
  f0 : Int
  f1 : Int
  f2 : S37
  f3 : (List S46)
def z46 : S46 := ⟨(0 : Int), (0 : Int), z37, ([] : List S46)⟩
def F46 (d : Kd S46) : Kd S46 := Kd.iso (Kd.pair (Kd.int .i64) (Kd.pair (Kd.int .i64) (Kd.pair k37 (Kd.slice 46 d)))) (fun x : S46 => (x.f0, x.f1, x.f2, x.f3))
theorem mono46 : Kd.Mono F46 := Kd.mono_iso _ (Kd.mono_pair (Kd.mono_const _) (Kd.mono_pair (Kd.mono_const _) (Kd.mono_pair (Kd.mono_const _) (Kd.mono_slice 46 Kd.mono_id))))
theorem sub46 : Kd.Sub F46 [46] := Kd.sub_iso _ (Kd.sub_pair (Kd.sub_const _ (by decide)) (Kd.sub_pair (Kd.sub_const _ (by decide)) (Kd.sub_pair (Kd.sub_const _ (by decide)) (Kd.sub_slice 46 (by decide) Kd.sub_id))))
theorem sz46 : ∀ n, (Kd.upto F46 5 [46] n).sz = 5 := Kd.upto_sz (fun _ => rfl)
def k46 : Kd S46 := Kd.fix F46 5 [46] sz46 (Kd.upto_E sub46)
theorem k46_open {w : World} {x : S46} {cs : List Value} (h : k46.K w x cs) : ∃ A4 c4, cs = [.int .i64 x.f0, .int .i64 x.f1, .int .i64 x.f2.f0, .int .i64 x.f2.f1, .slice A4 x.f3.length c4] ∧ x.f3.length ≤ c4 ∧ k46.C w A4 x.f3.length x.f3 := by
  obtain ⟨n, h⟩ := h
  cases n with
  | zero => exact h.elim
  | succ n =>
    obtain ⟨_, _, rfl, rfl, ⟨_, _, rfl, rfl, ⟨_, _, rfl, s2, ⟨A4, c4, rfl, l4, g4⟩⟩⟩⟩ := h
    obtain rfl := k37_open s2
    exact ⟨A4, c4, rfl, l4, Kd.fix_C g4⟩
theorem k46_mk (w : World) (x : S46) {A4 : Option Addr} {c4 : Nat} (l4 : x.f3.length ≤ c4) (g4 : k46.C w A4 x.f3.length x.f3) : k46.K w x [.int .i64 x.f0, .int .i64 x.f1, .int .i64 x.f2.f0, .int .i64 x.f2.f1, .slice A4 x.f3.length c4] := by
  obtain ⟨n4, q4⟩ := Kd.fix_C_back mono46 g4
  have r4 := Kd.upto_C_le mono46 sz46 (show n4 ≤ n4 by omega) q4
  exact ⟨n4 + 1, ⟨[.int .i64 x.f0], [.int .i64 x.f1, .int .i64 x.f2.f0, .int .i64 x.f2.f1, .slice A4 x.f3.length c4], rfl, rfl, ⟨[.int .i64 x.f1], [.int .i64 x.f2.f0, .int .i64 x.f2.f1, .slice A4 x.f3.length c4], rfl, rfl, ⟨[.int .i64 x.f2.f0, .int .i64 x.f2.f1], [.slice A4 x.f3.length c4], rfl, (k37_mk w x.f2 ), ⟨A4, c4, rfl, l4, r4⟩⟩⟩⟩⟩
theorem k46_mkM (w : World) (base : Nat) (ok : Nat → Prop) (x : S46) {v4 : Value} (g4 : k46.R 46 w base ok v4 x.f3) : k46.M w base ok x [.int .i64 x.f0, .int .i64 x.f1, .int .i64 x.f2.f0, .int .i64 x.f2.f1, v4] := by
  obtain ⟨n4, q4⟩ := Kd.fix_R_back mono46 g4
  have r4 := Kd.upto_R_le mono46 sz46 (show n4 ≤ n4 by omega) q4
  exact ⟨n4 + 1, ⟨[.int .i64 x.f0], [.int .i64 x.f1, .int .i64 x.f2.f0, .int .i64 x.f2.f1, v4], rfl, rfl, ⟨[.int .i64 x.f1], [.int .i64 x.f2.f0, .int .i64 x.f2.f1, v4], rfl, rfl, ⟨[.int .i64 x.f2.f0, .int .i64 x.f2.f1], [v4], rfl, (k37_mkM w base ok x.f2 ), ⟨v4, rfl, r4⟩⟩⟩⟩⟩
theorem k46_mkF (W : World) (ok : Nat → Prop) (x : S46) {A4 : Option Addr} {c4 : Nat} (l4 : x.f3.length ≤ c4) (g4 : Kd.F k46 W ok A4 x.f3.length x.f3) : Kd.FK k46 W ok x [.int .i64 x.f0, .int .i64 x.f1, .int .i64 x.f2.f0, .int .i64 x.f2.f1, .slice A4 x.f3.length c4] := fun W2 hW => k46_mk W2 x l4 (g4 W2 hW)
def rd_T46 (xs : List S46) (i : Int) : S46 := xs.getD i.toNat z46
theorem at_T46 {w : World} {A : Option Addr} {n : Nat} {xs : List S46} (h : Kd.C k46 w A n xs) (i : Int) (h0 : 0 ≤ i) (h1 : i < n) : ∃ ad A4 c4, A = some ad ∧ w.cell? (ad.add (i.toNat * 5)) = some (.int .i64 (rd_T46 xs i).f0) ∧ w.cell? ⟨(ad.add (i.toNat * 5)).block, (ad.add (i.toNat * 5)).off + 1, none⟩ = some (.int .i64 (rd_T46 xs i).f1) ∧ w.cell? ⟨(ad.add (i.toNat * 5)).block, (ad.add (i.toNat * 5)).off + 2, none⟩ = some (.int .i64 (rd_T46 xs i).f2.f0) ∧ w.cell? ⟨(ad.add (i.toNat * 5)).block, (ad.add (i.toNat * 5)).off + 3, none⟩ = some (.int .i64 (rd_T46 xs i).f2.f1) ∧ w.cell? ⟨(ad.add (i.toNat * 5)).block, (ad.add (i.toNat * 5)).off + 4, none⟩ = some (.slice A4 (rd_T46 xs i).f3.length c4) ∧ (rd_T46 xs i).f3.length ≤ c4 ∧ k46.C w A4 (rd_T46 xs i).f3.length (rd_T46 xs i).f3 := by
  obtain ⟨ad, c, e, _, hK, hc0⟩ := Kd.C_get h z46 i h0 h1
  have hc : ∀ j u, c[j]? = some u → w.cell? (ad.add (i.toNat * 5 + j)) = some u := hc0
  obtain ⟨A4, c4, rfl, l4, g4⟩ := k46_open hK
  exact ⟨ad, A4, c4, e, hc 0 _ rfl, by rw [← add_field _ _ 1 (by omega)]; exact hc 1 _ rfl, by rw [← add_field _ _ 2 (by omega)]; exact hc 2 _ rfl, by rw [← add_field _ _ 3 (by omega)]; exact hc 3 _ rfl, by rw [← add_field _ _ 4 (by omega)]; exact hc 4 _ rfl, l4, g4⟩

/-! #### struct type 69, nested in itself -/
structure S69 where
  f0 : Int
  f1 : S37
  f2 : S46
  f3 : (List S69)
  f4 : (List S69)
def z69 : S69 := ⟨(0 : Int), z37, z46, ([] : List S69), ([] : List S69)⟩
def F69 (d : Kd S69) : Kd S69 := Kd.iso (Kd.pair (Kd.int .i64) (Kd.pair k37 (Kd.pair k46 (Kd.pair (Kd.slice 69 d) (Kd.slice 69 d))))) (fun x : S69 => (x.f0, x.f1, x.f2, x.f3, x.f4))
theorem mono69 : Kd.Mono F69 := Kd.mono_iso _ (Kd.mono_pair (Kd.mono_const _) (Kd.mono_pair (Kd.mono_const _) (Kd.mono_pair (Kd.mono_const _) (Kd.mono_pair (Kd.mono_slice 69 Kd.mono_id) (Kd.mono_slice 69 Kd.mono_id)))))
theorem sub69 : Kd.Sub F69 [46, 69] := Kd.sub_iso _ (Kd.sub_pair (Kd.sub_const _ (by decide)) (Kd.sub_pair (Kd.sub_const _ (by decide)) (Kd.sub_pair (Kd.sub_const _ (by decide)) (Kd.sub_pair (Kd.sub_slice 69 (by decide) Kd.sub_id) (Kd.sub_slice 69 (by decide) Kd.sub_id)))))
theorem sz69 : ∀ n, (Kd.upto F69 10 [46, 69] n).sz = 10 := Kd.upto_sz (fun _ => rfl)
def k69 : Kd S69 := Kd.fix F69 10 [46, 69] sz69 (Kd.upto_E sub69)
theorem k69_open {w : World} {x : S69} {cs : List Value} (h : k69.K w x cs) : ∃ A7 c7 A8 c8 A9 c9, cs = [.int .i64 x.f0, .int .i64 x.f1.f0, .int .i64 x.f1.f1, .int .i64 x.f2.f0, .int .i64 x.f2.f1, .int .i64 x.f2.f2.f0, .int .i64 x.f2.f2.f1, .slice A7 x.f2.f3.length c7, .slice A8 x.f3.length c8, .slice A9 x.f4.length c9] ∧ x.f2.f3.length ≤ c7 ∧ k46.C w A7 x.f2.f3.length x.f2.f3 ∧ x.f3.length ≤ c8 ∧ k69.C w A8 x.f3.length x.f3 ∧ x.f4.length ≤ c9 ∧ k69.C w A9 x.f4.length x.f4 := by
  obtain ⟨n, h⟩ := h
  cases n with
  | zero => exact h.elim
  | succ n =>
    obtain ⟨_, _, rfl, rfl, ⟨_, _, rfl, s1, ⟨_, _, rfl, s3, ⟨_, _, rfl, ⟨A8, c8, rfl, l8, g8⟩, ⟨A9, c9, rfl, l9, g9⟩⟩⟩⟩⟩ := h
    obtain rfl := k37_open s1
    obtain ⟨A7, c7, rfl, l7, g7⟩ := k46_open s3
    exact ⟨A7, c7, A8, c8, A9, c9, rfl, l7, g7, l8, Kd.fix_C g8, l9, Kd.fix_C g9⟩
theorem k69_mk (w : World) (x : S69) {A7 : Option Addr} {c7 : Nat} (l7 : x.f2.f3.length ≤ c7) (g7 : k46.C w A7 x.f2.f3.length x.f2.f3) {A8 : Option Addr} {c8 : Nat} (l8 : x.f3.length ≤ c8) (g8 : k69.C w A8 x.f3.length x.f3) {A9 : Option Addr} {c9 : Nat} (l9 : x.f4.length ≤ c9) (g9 : k69.C w A9 x.f4.length x.f4) : k69.K w x [.int .i64 x.f0, .int .i64 x.f1.f0, .int .i64 x.f1.f1, .int .i64 x.f2.f0, .int .i64 x.f2.f1, .int .i64 x.f2.f2.f0, .int .i64 x.f2.f2.f1, .slice A7 x.f2.f3.length c7, .slice A8 x.f3.length c8, .slice A9 x.f4.length c9] := by
  obtain ⟨n8, q8⟩ := Kd.fix_C_back mono69 g8
  obtain ⟨n9, q9⟩ := Kd.fix_C_back mono69 g9
  have r8 := Kd.upto_C_le mono69 sz69 (show n8 ≤ (max n8 n9) by omega) q8
  have r9 := Kd.upto_C_le mono69 sz69 (show n9 ≤ (max n8 n9) by omega) q9
  exact ⟨(max n8 n9) + 1, ⟨[.int .i64 x.f0], [.int .i64 x.f1.f0, .int .i64 x.f1.f1, .int .i64 x.f2.f0, .int .i64 x.f2.f1, .int .i64 x.f2.f2.f0, .int .i64 x.f2.f2.f1, .slice A7 x.f2.f3.length c7, .slice A8 x.f3.length c8, .slice A9 x.f4.length c9], rfl, rfl, ⟨[.int .i64 x.f1.f0, .int .i64 x.f1.f1], [.int .i64 x.f2.f0, .int .i64 x.f2.f1, .int .i64 x.f2.f2.f0, .int .i64 x.f2.f2.f1, .slice A7 x.f2.f3.length c7, .slice A8 x.f3.length c8, .slice A9 x.f4.length c9], rfl, (k37_mk w x.f1 ), ⟨[.int .i64 x.f2.f0, .int .i64 x.f2.f1, .int .i64 x.f2.f2.f0, .int .i64 x.f2.f2.f1, .slice A7 x.f2.f3.length c7], [.slice A8 x.f3.length c8, .slice A9 x.f4.length c9], rfl, (k46_mk w x.f2 l7 g7), ⟨[.slice A8 x.f3.length c8], [.slice A9 x.f4.length c9], rfl, ⟨A8, c8, rfl, l8, r8⟩, ⟨A9, c9, rfl, l9, r9⟩⟩⟩⟩⟩⟩
theorem k69_openF {W : World} {ok : Nat → Prop} {x : S69} {cs : List Value} (h : Kd.FK k69 W ok x cs) : ∃ A7 c7 A8 c8 A9 c9, cs = [.int .i64 x.f0, .int .i64 x.f1.f0, .int .i64 x.f1.f1, .int .i64 x.f2.f0, .int .i64 x.f2.f1, .int .i64 x.f2.f2.f0, .int .i64 x.f2.f2.f1, .slice A7 x.f2.f3.length c7, .slice A8 x.f3.length c8, .slice A9 x.f4.length c9] ∧ x.f2.f3.length ≤ c7 ∧ Kd.F k46 W ok A7 x.f2.f3.length x.f2.f3 ∧ x.f3.length ≤ c8 ∧ Kd.F k69 W ok A8 x.f3.length x.f3 ∧ x.f4.length ≤ c9 ∧ Kd.F k69 W ok A9 x.f4.length x.f4 := by
  obtain ⟨A7, c7, A8, c8, A9, c9, rfl, l7, _, l8, _, l9, _⟩ := k69_open (Kd.FK_now h)
  exact ⟨A7, c7, A8, c8, A9, c9, rfl, l7, (fun W' hW => by obtain ⟨A7_, c7_, A8_, c8_, A9_, c9_, he, l7_, g7_, l8_, g8_, l9_, g9_⟩ := k69_open (h W' hW); injection (Option.some.inj (show some (Value.slice A7 x.f2.f3.length c7) = some (Value.slice A7_ x.f2.f3.length c7_) from congrArg (fun l => l[7]?) he)) with ha_ _ _; rw [ha_]; exact g7_), l8, (fun W' hW => by obtain ⟨A7_, c7_, A8_, c8_, A9_, c9_, he, l7_, g7_, l8_, g8_, l9_, g9_⟩ := k69_open (h W' hW); injection (Option.some.inj (show some (Value.slice A8 x.f3.length c8) = some (Value.slice A8_ x.f3.length c8_) from congrArg (fun l => l[8]?) he)) with ha_ _ _; rw [ha_]; exact g8_), l9, (fun W' hW => by obtain ⟨A7_, c7_, A8_, c8_, A9_, c9_, he, l7_, g7_, l8_, g8_, l9_, g9_⟩ := k69_open (h W' hW); injection (Option.some.inj (show some (Value.slice A9 x.f4.length c9) = some (Value.slice A9_ x.f4.length c9_) from congrArg (fun l => l[9]?) he)) with ha_ _ _; rw [ha_]; exact g9_)⟩
theorem k69_mkF (W : World) (ok : Nat → Prop) (x : S69) {A7 : Option Addr} {c7 : Nat} (l7 : x.f2.f3.length ≤ c7) (g7 : Kd.F k46 W ok A7 x.f2.f3.length x.f2.f3) {A8 : Option Addr} {c8 : Nat} (l8 : x.f3.length ≤ c8) (g8 : Kd.F k69 W ok A8 x.f3.length x.f3) {A9 : Option Addr} {c9 : Nat} (l9 : x.f4.length ≤ c9) (g9 : Kd.F k69 W ok A9 x.f4.length x.f4) : Kd.FK k69 W ok x [.int .i64 x.f0, .int .i64 x.f1.f0, .int .i64 x.f1.f1, .int .i64 x.f2.f0, .int .i64 x.f2.f1, .int .i64 x.f2.f2.f0, .int .i64 x.f2.f2.f1, .slice A7 x.f2.f3.length c7, .slice A8 x.f3.length c8, .slice A9 x.f4.length c9] := fun W2 hW => k69_mk W2 x l7 (g7 W2 hW) l8 (g8 W2 hW) l9 (g9 W2 hW)
def rd_T69 (xs : List S69) (i : Int) : S69 := xs.getD i.toNat z69
theorem at_T69 {w : World} {A : Option Addr} {n : Nat} {xs : List S69} (h : Kd.C k69 w A n xs) (i : Int) (h0 : 0 ≤ i) (h1 : i < n) : ∃ ad A7 c7 A8 c8 A9 c9, A = some ad ∧ w.cell? (ad.add (i.toNat * 10)) = some (.int .i64 (rd_T69 xs i).f0) ∧ w.cell? ⟨(ad.add (i.toNat * 10)).block, (ad.add (i.toNat * 10)).off + 1, none⟩ = some (.int .i64 (rd_T69 xs i).f1.f0) ∧ w.cell? ⟨(ad.add (i.toNat * 10)).block, (ad.add (i.toNat * 10)).off + 2, none⟩ = some (.int .i64 (rd_T69 xs i).f1.f1) ∧ w.cell? ⟨(ad.add (i.toNat * 10)).block, (ad.add (i.toNat * 10)).off + 3, none⟩ = some (.int .i64 (rd_T69 xs i).f2.f0) ∧ w.cell? ⟨(ad.add (i.toNat * 10)).block, (ad.add (i.toNat * 10)).off + 4, none⟩ = some (.int .i64 (rd_T69 xs i).f2.f1) ∧ w.cell? ⟨(ad.add (i.toNat * 10)).block, (ad.add (i.toNat * 10)).off + 5, none⟩ = some (.int .i64 (rd_T69 xs i).f2.f2.f0) ∧ w.cell? ⟨(ad.add (i.toNat * 10)).block, (ad.add (i.toNat * 10)).off + 6, none⟩ = some (.int .i64 (rd_T69 xs i).f2.f2.f1) ∧ w.cell? ⟨(ad.add (i.toNat * 10)).block, (ad.add (i.toNat * 10)).off + 7, none⟩ = some (.slice A7 (rd_T69 xs i).f2.f3.length c7) ∧ w.cell? ⟨(ad.add (i.toNat * 10)).block, (ad.add (i.toNat * 10)).off + 8, none⟩ = some (.slice A8 (rd_T69 xs i).f3.length c8) ∧ w.cell? ⟨(ad.add (i.toNat * 10)).block, (ad.add (i.toNat * 10)).off + 9, none⟩ = some (.slice A9 (rd_T69 xs i).f4.length c9) ∧ (rd_T69 xs i).f2.f3.length ≤ c7 ∧ k46.C w A7 (rd_T69 xs i).f2.f3.length (rd_T69 xs i).f2.f3 ∧ (rd_T69 xs i).f3.length ≤ c8 ∧ k69.C w A8 (rd_T69 xs i).f3.length (rd_T69 xs i).f3 ∧ (rd_T69 xs i).f4.length ≤ c9 ∧ k69.C w A9 (rd_T69 xs i).f4.length (rd_T69 xs i).f4 := by
  obtain ⟨ad, c, e, _, hK, hc0⟩ := Kd.C_get h z69 i h0 h1
  have hc : ∀ j u, c[j]? = some u → w.cell? (ad.add (i.toNat * 10 + j)) = some u := hc0
  obtain ⟨A7, c7, A8, c8, A9, c9, rfl, l7, g7, l8, g8, l9, g9⟩ := k69_open hK
  exact ⟨ad, A7, c7, A8, c8, A9, c9, e, hc 0 _ rfl, by rw [← add_field _ _ 1 (by omega)]; exact hc 1 _ rfl, by rw [← add_field _ _ 2 (by omega)]; exact hc 2 _ rfl, by rw [← add_field _ _ 3 (by omega)]; exact hc 3 _ rfl, by rw [← add_field _ _ 4 (by omega)]; exact hc 4 _ rfl, by rw [← add_field _ _ 5 (by omega)]; exact hc 5 _ rfl, by rw [← add_field _ _ 6 (by omega)]; exact hc 6 _ rfl, by rw [← add_field _ _ 7 (by omega)]; exact hc 7 _ rfl, by rw [← add_field _ _ 8 (by omega)]; exact hc 8 _ rfl, by rw [← add_field _ _ 9 (by omega)]; exact hc 9 _ rfl, l7, g7, l8, g8, l9, g9⟩

/-! #### struct type 39 -/
structure S39 where
  f0 : Int
  f1 : Int
  f2 : S37
def z39 : S39 := ⟨(0 : Int), (0 : Int), z37⟩
def k39 : Kd S39 := Kd.iso (Kd.pair (Kd.int .i64) (Kd.pair (Kd.int .i64) k37)) (fun x : S39 => (x.f0, x.f1, x.f2))
theorem k39_open {w : World} {x : S39} {cs : List Value} (h : k39.K w x cs) : cs = [.int .i64 x.f0, .int .i64 x.f1, .int .i64 x.f2.f0, .int .i64 x.f2.f1] := by
  obtain ⟨_, _, rfl, rfl, ⟨_, _, rfl, rfl, s2⟩⟩ := h
  obtain rfl := k37_open s2
  exact rfl
theorem k39_openM {w : World} {base : Nat} {ok : Nat → Prop} {x : S39} {cs : List Value} (h : k39.M w base ok x cs) : cs = [.int .i64 x.f0, .int .i64 x.f1, .int .i64 x.f2.f0, .int .i64 x.f2.f1] := by
  obtain ⟨_, _, rfl, rfl, ⟨_, _, rfl, rfl, s2⟩⟩ := h
  obtain rfl := k37_openM s2
  exact rfl
theorem k39_mkM (w : World) (base : Nat) (ok : Nat → Prop) (x : S39)  : k39.M w base ok x [.int .i64 x.f0, .int .i64 x.f1, .int .i64 x.f2.f0, .int .i64 x.f2.f1] := ⟨[.int .i64 x.f0], [.int .i64 x.f1, .int .i64 x.f2.f0, .int .i64 x.f2.f1], rfl, rfl, ⟨[.int .i64 x.f1], [.int .i64 x.f2.f0, .int .i64 x.f2.f1], rfl, rfl, (k37_mkM w base ok x.f2 )⟩⟩
def rd_T39 (xs : List S39) (i : Int) : S39 := xs.getD i.toNat z39
theorem at_T39 {w : World} {A : Option Addr} {n : Nat} {xs : List S39} (h : Kd.C k39 w A n xs) (i : Int) (h0 : 0 ≤ i) (h1 : i < n) : ∃ ad , A = some ad ∧ w.cell? (ad.add (i.toNat * 4)) = some (.int .i64 (rd_T39 xs i).f0) ∧ w.cell? ⟨(ad.add (i.toNat * 4)).block, (ad.add (i.toNat * 4)).off + 1, none⟩ = some (.int .i64 (rd_T39 xs i).f1) ∧ w.cell? ⟨(ad.add (i.toNat * 4)).block, (ad.add (i.toNat * 4)).off + 2, none⟩ = some (.int .i64 (rd_T39 xs i).f2.f0) ∧ w.cell? ⟨(ad.add (i.toNat * 4)).block, (ad.add (i.toNat * 4)).off + 3, none⟩ = some (.int .i64 (rd_T39 xs i).f2.f1) := by
  obtain ⟨ad, c, e, _, hK, hc0⟩ := Kd.C_get h z39 i h0 h1
  have hc : ∀ j u, c[j]? = some u → w.cell? (ad.add (i.toNat * 4 + j)) = some u := hc0
  obtain rfl := k39_open hK
  exact ⟨ad, e, hc 0 _ rfl, by rw [← add_field _ _ 1 (by omega)]; exact hc 1 _ rfl, by rw [← add_field _ _ 2 (by omega)]; exact hc 2 _ rfl, by rw [← add_field _ _ 3 (by omega)]; exact hc 3 _ rfl⟩

/-! #### struct type 58 -/
structure S58 where
  f0 : (List Int)
  f1 : (List Int)
  f2 : (List Int)
end Go.Proofs.Ytddnijmgipffeaa.B
