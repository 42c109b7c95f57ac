-- printed by base.py (this claim's tool) over the kit's print
import Derived.Test.YtendbgedpjcocaaGreatDoorB0
import Derived.Test.YtendbgedpjcocaaGreatDoorSq
import Derived.Test.YtendbgedpjcocaaGreatDoorPkB
import Derived.Test.YtendbgedpjcocaaGreatDoorJnH
namespace Go.Proofs.YtendbgedpjcocaaGreatDoor.B
open Go.RowKit Go.Proofs.YtendbgedpjcocaaGreatDoorW.PrintWords Go.Proofs.YtendbgedpjcocaaGreatDoorW.PrintLast Go.Proofs.YtendbgedpjcocaaGreatDoorW.PrintMore
attribute [local go_sem] max2_int min2_int max_two min_two max_three min_three max_four min_four   -- for this text's walks alone
set_option linter.unusedVariables false
set_option linter.unusedSimpArgs false

/-! ### spec_l2Mem: function 63 -/
def spec_l2Mem.l0 : Nat → Int → List Int → Int → List Int → List Int → List Int → Option (List Int × List Int × List Int × Int)
 | 0, _, _, _, _, _, _ => none
 | k + 1, x4, x1000, x1001, x272000, x272001, x272002 => if x4 < 4 then ((spec_l12Rd_num.f k x1000 x1001 (([0, 0, 1, 1, 2, 5, (-1)] : List Int))).bind fun bt275 => (if 0 ≤ x4 then (if x4 < (x272000.length : Int) then ((spec_l12Rd_num.f k x1000 bt275.2 (([0, 0, 1, 3] : List Int))).bind fun bt281 => (if x4 < (x272001.length : Int) then ((spec_l12Rd_num.f k x1000 bt281.2 (([0, 0, 1, 2, 7, 1000000] : List Int))).bind fun bt287 => (if x4 < (x272002.length : Int) then (spec_l2Mem.l0 k (wrap64 (x4 + 1)) x1000 bt287.2 (x272000.set (x4 : Int).toNat bt275.1) (x272001.set (x4 : Int).toNat bt281.1) (x272002.set (x4 : Int).toNat bt287.1)) else (none))) else (none))) else (none)) else (none))) else (some (x272000, x272001, x272002, x1001))
def spec_l2Mem.f (k : Nat) (s0_0 : List Int) (s0_1 : Int) : Option (List Int × List Int × List Int × Int) := (spec_MemOpen.f).bind fun bt262 => (spec_l2Mem.l0 k 0 s0_0 s0_1 bt262.1 bt262.2.1 bt262.2.2)
def spec_l2Mem.T5 : Bool × List (List Nat × List Nat) := (true, [([], []), ([0], [0]), ([], []), ([], []), ([], []), ([3, 4], [3, 4]), ([1, 2, 0, 1, 2, 3, 4, 5], [1, 2]), ([6, 5, 5, 0, 1, 2, 3, 4, 5], [5, 6])])
def spec_l2Mem.B5 : List Nat := [0, 1, 0, 0, 0, 24, 63, 127]
theorem spec_l2Mem.tab5 : rtab .any (opsOf Tryz.f63 5) = spec_l2Mem.T5 := by kernel_rfl
theorem spec_l2Mem.bits5 : waitsOk spec_l2Mem.T5.2 spec_l2Mem.B5 = true := by kernel_rfl
def spec_l2Mem.T6 : Bool × List (List Nat × List Nat) := (true, [([], []), ([0], [0]), ([], []), ([], []), ([], []), ([3, 4], [3, 4]), ([1, 2, 0, 1, 2, 3, 4, 5], [1, 2]), ([6, 5, 5, 0, 1, 2, 3, 4, 5], [5, 6])])
def spec_l2Mem.B6 : List Nat := [0, 1, 0, 0, 0, 24, 63, 127]
theorem spec_l2Mem.tab6 : rtab .any (opsOf Tryz.f63 6) = spec_l2Mem.T6 := by kernel_rfl
theorem spec_l2Mem.bits6 : waitsOk spec_l2Mem.T6.2 spec_l2Mem.B6 = true := by kernel_rfl
def spec_l2Mem.T7 : Bool × List (List Nat × List Nat) := (true, [([], []), ([0], [0]), ([], []), ([], []), ([], []), ([3, 4], [3, 4]), ([1, 2, 0, 1, 2, 3, 4, 5], [1, 2]), ([6, 5, 5, 0, 1, 2, 3, 4, 5], [5, 6])])
def spec_l2Mem.B7 : List Nat := [0, 1, 0, 0, 0, 24, 63, 127]
theorem spec_l2Mem.tab7 : rtab .any (opsOf Tryz.f63 7) = spec_l2Mem.T7 := by kernel_rfl
theorem spec_l2Mem.bits7 : waitsOk spec_l2Mem.T7.2 spec_l2Mem.B7 = true := by kernel_rfl
theorem q63_1 {p : Prop} (h : p := by exact ⟨(blk_cell BK271.out 0).trans rfl, (blk_cell BK271.out 1).trans rfl, (blk_cell BK271.out 2).trans rfl⟩) : p := h
set_option maxHeartbeats 8000000 in
set_option maxRecDepth 100000 in
theorem spec_l2Mem.calls (k : Nat) (g : Nat) (s0_0 : List Int) (s0_1 : Int) (r1 : List Int) (r2 : List Int) (r3 : List Int) (r4 : Int) (w0 w : World) (hI : IsS93 w0 w g s0_0 s0_1) (hB : Below w0.heap.size w0 w) (h : spec_l2Mem.f k s0_0 s0_1 = some (r1, r2, r3, r4)) :
  Calls Tryz.prog 63 #[.pointer (some ⟨g, 0, none⟩)] w fun e w' => ∃ v0_ v1_ v2_ : Value, e = .returned (.agg #[v0_, v1_, v2_]) ∧ Kd.R (Kd.int .i64) 3 w' w.heap.size (fun k_ => nB k_ v1_ ∧ nB k_ v2_) v0_ r1 ∧ Kd.R (Kd.int .i64) 3 w' w.heap.size (fun k_ => nB k_ v0_ ∧ nB k_ v2_) v1_ r2 ∧ Kd.R (Kd.int .i64) 3 w' w.heap.size (fun k_ => nB k_ v0_ ∧ nB k_ v1_) v2_ r3 ∧ IsS93 w0 w' g s0_0 r4 ∧ Below w0.heap.size w0 w' ∧ KeepBut w w' g none := by
 have hu30 := Tryz.underlying30
 have HI0 := z0 hI
 have HK := z0 (KeepBut.refl w g none)
 have HL := z0 hB.size
 clear hI
 have HW0 := z0 hB.size
 have HB := z0 hB
 clear hB
 have H : ((spec_MemOpen.f).bind fun bt262 => (spec_l2Mem.l0 k 0 s0_0 s0_1 bt262.1 bt262.2.1 bt262.2.2)) = some (r1, r2, r3, r4) := h
 clear h
 replace H := Option.bind_eq_some_iff.mp H
 obtain ⟨⟨t262, t265, t268⟩, A20, H⟩ := H
 try dsimp only at H
 have A2 := z0 A20
 clear A20
 have H' := z0 H
 clear H
 go_enter Tryz.func63, Tryz.ntmps63
 go_wp2_with (first | ((with_reducible refine gate_dst (N := 2) rfl ?_); refine box_event ?hg (N := 2) ?hd (cs := #[.slice none 0 0, .slice none 0 0, .slice none 0 0]) (t := 30) ?hr ?_; (case hd => rfl); (case hg => rfl); (case hr => first | (go_simp; done) | (go_simp; rfl)); intro gb261 hg w3 hbox hb; have n_ := az (IsS93.below (mI93_1 HI0.out) hb) <| az (KeepBut.trans (mKp HK.out) (KeepBut.of_below hb g none) (.inl rfl)) <| az (below_step (mB93HI0 HB.out) hb) <| az (hbox) <| az ((gW hg HK.out)) <| az ((Nat.le_trans HW0.out (gW hg HK.out) : w0.heap.size ≤ gb261)) <| az ((by rw [hg]; exact Nat.ne_of_lt (IsS93.lt (show IsS93 w0 _ g s0_0 s0_1 from mI93_1 HI0.out)) : g ≠ gb261)) <| z0 ((by rw [hg]; exact Nat.ne_of_gt (IsS93.lt (show IsS93 w0 _ g s0_0 s0_1 from mI93_1 HI0.out)) : gb261 ≠ g)); clear HI0 HK HB; obtain ⟨HI0, HK, HB, BK261, GW261, GE261, NB0_261, NB261_0⟩ := n_; clear hb hbox hg) | ((with_reducible refine gate_callee (f := 91) rfl ?_); refine goesL_ (some 5) rfl rfl Tryz.func91 (by kernel_rfl) rfl #[] rfl argx ?_; (with_reducible refine (spec_MemOpen.calls  t262 t265 t268 _ A2.out).mono ?_); rintro e w4 ⟨v263, v266, v269, rfl, ho0, ho1, ho2, hb⟩; refine ⟨_, rfl, ?_⟩; have n_ := az (Kd.R_lower ho0 (kS HK.out)) <| az (Kd.R_lower ho1 (kS HK.out)) <| az (Kd.R_lower ho2 (kS HK.out)) <| az (IsS93.below (mI93_1 HI0.out) hb) <| az (bB BK261.out hb) <| az (KeepBut.trans (mKp HK.out) (KeepBut.of_below hb g none) (.inl rfl)) <| z0 (below_step (mB93HI0 HB.out) hb); clear HI0 BK261 HK HB; obtain ⟨HO264, HO267, HO270, HI0, BK261, HK, HB⟩ := n_; clear hb ho0; (try clear ho1); (try clear ho2)) | ((with_reducible refine gate_dst (N := 3) rfl ?_); refine box_event ?hg (N := 3) ?hd (cs := #[.slice none 0 0, .slice none 0 0, .slice none 0 0]) (t := 30) ?hr ?_; (case hd => rfl); (case hg => rfl); (case hr => first | (go_simp; done) | (go_simp; rfl)); intro gb271 hg w5 hbox hb; have n_ := az (Kd.R_below (mR HO264.out) hb) <| az (Kd.R_below (mR HO267.out) hb) <| az (Kd.R_below (mR HO270.out) hb) <| az (IsS93.below (mI93_1 HI0.out) hb) <| az (bB BK261.out hb) <| az (KeepBut.trans (mKp HK.out) (KeepBut.of_below hb g none) (.inl rfl)) <| az (below_step (mB93HI0 HB.out) hb) <| az (hbox) <| az ((gW hg HK.out)) <| az ((Nat.le_trans HW0.out (gW hg HK.out) : w0.heap.size ≤ gb271)) <| az ((nL hg BK261.out)) <| az ((nG hg BK261.out)) <| az ((by rw [hg]; exact Nat.ne_of_lt (IsS93.lt (show IsS93 w0 _ g s0_0 s0_1 from mI93_1 HI0.out)) : g ≠ gb271)) <| z0 ((by rw [hg]; exact Nat.ne_of_gt (IsS93.lt (show IsS93 w0 _ g s0_0 s0_1 from mI93_1 HI0.out)) : gb271 ≠ g)); clear HO264 HO267 HO270 HI0 BK261 HK HB; obtain ⟨HO264, HO267, HO270, HI0, BK261, HK, HB, BK271, GW271, GE271, NB261_271, NB271_261, NB0_271, NB271_0⟩ := n_; clear hb hbox hg; obtain ⟨Ao6, co6, eo6⟩ := Kd.R_slice HO264.out; subst eo6; have hnb7 := NB271_261.out; have hnc7 := NB261_271.out; have hnb8 := NB271_0.out; have hnc8 := NB0_271.out; obtain ⟨hcz9_0, hcz9_1, hcz9_2, hfz9_0, hfz9_1, hfz9_2⟩ := cel3 BK271.out; obtain ⟨Ao10, co10, eo10⟩ := Kd.R_slice HO267.out; subst eo10; obtain ⟨Ao11, co11, eo11⟩ := Kd.R_slice HO270.out; subst eo11))
 go_loopg [4] k (fun kq v4 w' => ∃ (x4_1 : Int) (x1001_1 : Int) (x272000_1 : List Int) (x272001_1 : List Int) (x272002_1 : List Int) (u272000 : Value) (u272001 : Value) (u272002 : Value), v4 = .int .i64 x4_1 ∧ Aside0 (spec_l2Mem.l0 kq x4_1 s0_0 x1001_1 x272000_1 x272001_1 x272002_1 = some (r1, r2, r3, r4)) ∧ Aside0 (kq ≤ k) ∧ Aside0 (Kd.R (Kd.int .i64) 3 w' w.heap.size (fun k_ => nB k_ u272001 ∧ nB k_ u272002) u272000 x272000_1) ∧ Aside0 (Kd.R (Kd.int .i64) 3 w' w.heap.size (fun k_ => nB k_ u272000 ∧ nB k_ u272002) u272001 x272001_1) ∧ Aside0 (Kd.R (Kd.int .i64) 3 w' w.heap.size (fun k_ => nB k_ u272000 ∧ nB k_ u272001) u272002 x272002_1) ∧ Aside0 (w'.heap[gb261]? = some (.cells #[(.slice none 0 0), (.slice none 0 0), (.slice none 0 0)] 30 (0, 0))) ∧ Aside0 (w'.heap[gb271]? = some (.cells #[u272000, u272001, u272002] 30 (0, 0))) ∧ Aside0 (IsS93 w0 w' g s0_0 x1001_1) ∧ Aside0 (KeepBut w w' g none) ∧ Aside0 (Below w0.heap.size w0 w'))
 case atStart => exact ⟨(0), (s0_1), (t262), (t265), (t268), (.slice Ao6 t262.length co6), (.slice Ao10 t265.length co10), (.slice Ao11 t268.length co11), rfy, H', ⟨Nat.le_refl _⟩, ⟨by (with_reducible repeat (first | apply Kd.R_alloc | apply Kd.R_drewN | apply Kd.R_drew)); exact Kd.R_mono (Kd.R_far (p := ⟨gb271, 2, none⟩) (Kd.R_far (p := ⟨gb271, 1, none⟩) (Kd.R_far (p := ⟨gb271, 0, none⟩) (Kd.R_types HO264.out BK271.out (by decide)) (fun _ hk => hk.2) (.slice Ao6 t262.length co6)) (fun _ hk => hk.2) (.slice Ao10 t265.length co10)) (fun _ hk => hk.2) (.slice Ao11 t268.length co11)) (fun _ hk => ⟨hk.1.1, hk.1.2⟩)⟩, ⟨by (with_reducible repeat (first | apply Kd.R_alloc | apply Kd.R_drewN | apply Kd.R_drew)); exact Kd.R_mono (Kd.R_far (p := ⟨gb271, 2, none⟩) (Kd.R_far (p := ⟨gb271, 1, none⟩) (Kd.R_far (p := ⟨gb271, 0, none⟩) (Kd.R_types HO267.out BK271.out (by decide)) (fun _ hk => hk.2) (.slice Ao6 t262.length co6)) (fun _ hk => hk.2) (.slice Ao10 t265.length co10)) (fun _ hk => hk.2) (.slice Ao11 t268.length co11)) (fun _ hk => ⟨hk.1.1, hk.1.2⟩)⟩, ⟨by (with_reducible repeat (first | apply Kd.R_alloc | apply Kd.R_drewN | apply Kd.R_drew)); exact Kd.R_mono (Kd.R_far (p := ⟨gb271, 2, none⟩) (Kd.R_far (p := ⟨gb271, 1, none⟩) (Kd.R_far (p := ⟨gb271, 0, none⟩) (Kd.R_types HO270.out BK271.out (by decide)) (fun _ hk => hk.2) (.slice Ao6 t262.length co6)) (fun _ hk => hk.2) (.slice Ao10 t265.length co10)) (fun _ hk => hk.2) (.slice Ao11 t268.length co11)) (fun _ hk => ⟨hk.1.1, hk.1.2⟩)⟩, ⟨mF BK261.out⟩, ⟨by (with_reducible repeat (first | refine blk_drewN ?_ _ | refine blk_drew ?_ | refine blk_alloc ?_ _)); refine blk_put (cs := #[.slice Ao6 t262.length co6, .slice Ao10 t265.length co10, .slice none 0 0]) ?_ 2 _ rfl; (with_reducible repeat (first | refine blk_drewN ?_ _ | refine blk_drew ?_ | refine blk_alloc ?_ _)); refine blk_put (cs := #[.slice Ao6 t262.length co6, .slice none 0 0, .slice none 0 0]) ?_ 1 _ rfl; (with_reducible repeat (first | refine blk_drewN ?_ _ | refine blk_drew ?_ | refine blk_alloc ?_ _)); refine blk_put (cs := #[.slice none 0 0, .slice none 0 0, .slice none 0 0]) ?_ 0 _ rfl; (with_reducible repeat (first | refine blk_drewN ?_ _ | refine blk_drew ?_ | refine blk_alloc ?_ _)); exact BK271.out⟩, ⟨mI93_1 HI0.out⟩, ⟨mKp HK.out⟩, ⟨mB93HI0 HB.out⟩⟩
 case round =>
  clear H'
  (try clear hcz9_0); (try clear hcz9_1); (try clear hcz9_2); (try clear hfz9_0); (try clear hfz9_1); (try clear hfz9_2)
  obtain ⟨x4_1, x1001_1, x272000_1, x272001_1, x272002_1, u272000, u272001, u272002, rfl, HA, HK1, HO_272000, HO_272001, HO_272002, BK261, BK271, HI0, HK, HB⟩ := hrel
  cases gk with
  | zero => exact absurd HA.out (by simp [spec_l2Mem.l0])
  | succ k1 =>
   have H := HA.out
   clear HA
   simp only [spec_l2Mem.l0] at H
   by_cases c12 : x4_1 < 4
   ·rw [if_pos c12] at H
    have c12b0 : decide (x4_1 < 4) = true := decide_eq_true c12
    clear c12
    obtain ⟨y272, hy272⟩ : ∃ y_ : List Int, y_ = (([0, 0, 1, 1, 2, 5, (-1)] : List Int)) := ⟨_, rfl⟩
    replace H : ((spec_l12Rd_num.f k1 s0_0 x1001_1 y272).bind fun bt275 => (if 0 ≤ x4_1 then (if x4_1 < (x272000_1.length : Int) then ((spec_l12Rd_num.f k1 s0_0 bt275.2 (([0, 0, 1, 3] : List Int))).bind fun bt281 => (if x4_1 < (x272001_1.length : Int) then ((spec_l12Rd_num.f k1 s0_0 bt281.2 (([0, 0, 1, 2, 7, 1000000] : List Int))).bind fun bt287 => (if x4_1 < (x272002_1.length : Int) then (spec_l2Mem.l0 k1 (wrap64 (x4_1 + 1)) s0_0 bt287.2 (x272000_1.set (x4_1 : Int).toNat bt275.1) (x272001_1.set (x4_1 : Int).toNat bt281.1) (x272002_1.set (x4_1 : Int).toNat bt287.1)) else (none))) else (none))) else (none)) else (none))) = some (r1, r2, r3, r4) := by first | (rw [hy272]; with_reducible exact H) | (have H2_ := (Option.bind_some _ _).symm.trans H; rw [hy272]; with_reducible exact H2_) | (have H2_ := (Option.bind_some _ _).symm.trans H; with_reducible exact H2_) | with_reducible exact H | (rw [hy272]; exact H) | exact H
    have Ny272 := z0 hy272
    clear hy272
    replace H := Option.bind_eq_some_iff.mp H
    obtain ⟨⟨t275, t276⟩, A130, H⟩ := H
    try dsimp only at H
    have A13 := z0 A130
    clear A130
    by_cases c14 : 0 ≤ x4_1
    ·rw [if_pos c14] at H
     have c14b0 : decide (0 ≤ x4_1) = true := decide_eq_true c14
     clear c14
     by_cases c15 : x4_1 < (x272000_1.length : Int)
     ·rw [if_pos c15] at H
      have c15b0 : decide (x4_1 < (x272000_1.length : Int)) = true := decide_eq_true c15
      clear c15
      obtain ⟨y277, hy277⟩ : ∃ y_ : List Int, y_ = (x272000_1.set (x4_1 : Int).toNat t275) := ⟨_, rfl⟩
      replace H : ((spec_l12Rd_num.f k1 s0_0 t276 (([0, 0, 1, 3] : List Int))).bind fun bt281 => (if x4_1 < (x272001_1.length : Int) then ((spec_l12Rd_num.f k1 s0_0 bt281.2 (([0, 0, 1, 2, 7, 1000000] : List Int))).bind fun bt287 => (if x4_1 < (x272002_1.length : Int) then (spec_l2Mem.l0 k1 (wrap64 (x4_1 + 1)) s0_0 bt287.2 y277 (x272001_1.set (x4_1 : Int).toNat bt281.1) (x272002_1.set (x4_1 : Int).toNat bt287.1)) else (none))) else (none))) = some (r1, r2, r3, r4) := by first | (rw [hy277]; with_reducible exact H) | (have H2_ := (Option.bind_some _ _).symm.trans H; rw [hy277]; with_reducible exact H2_) | (have H2_ := (Option.bind_some _ _).symm.trans H; with_reducible exact H2_) | with_reducible exact H | (rw [hy277]; exact H) | exact H
      have Ny277 := z0 hy277
      clear hy277
      obtain ⟨y278, hy278⟩ : ∃ y_ : List Int, y_ = (([0, 0, 1, 3] : List Int)) := ⟨_, rfl⟩
      replace H : ((spec_l12Rd_num.f k1 s0_0 t276 y278).bind fun bt281 => (if x4_1 < (x272001_1.length : Int) then ((spec_l12Rd_num.f k1 s0_0 bt281.2 (([0, 0, 1, 2, 7, 1000000] : List Int))).bind fun bt287 => (if x4_1 < (x272002_1.length : Int) then (spec_l2Mem.l0 k1 (wrap64 (x4_1 + 1)) s0_0 bt287.2 y277 (x272001_1.set (x4_1 : Int).toNat bt281.1) (x272002_1.set (x4_1 : Int).toNat bt287.1)) else (none))) else (none))) = some (r1, r2, r3, r4) := by first | (rw [hy278]; with_reducible exact H) | (have H2_ := (Option.bind_some _ _).symm.trans H; rw [hy278]; with_reducible exact H2_) | (have H2_ := (Option.bind_some _ _).symm.trans H; with_reducible exact H2_) | with_reducible exact H | (rw [hy278]; exact H) | exact H
      have Ny278 := z0 hy278
      clear hy278
      replace H := Option.bind_eq_some_iff.mp H
      obtain ⟨⟨t281, t282⟩, A170, H⟩ := H
      try dsimp only at H
      have A17 := z0 A170
      clear A170
      by_cases c18 : x4_1 < (x272001_1.length : Int)
      ·rw [if_pos c18] at H
       have c18b0 : decide (x4_1 < (x272001_1.length : Int)) = true := decide_eq_true c18
       clear c18
       obtain ⟨y283, hy283⟩ : ∃ y_ : List Int, y_ = (x272001_1.set (x4_1 : Int).toNat t281) := ⟨_, rfl⟩
       replace H : ((spec_l12Rd_num.f k1 s0_0 t282 (([0, 0, 1, 2, 7, 1000000] : List Int))).bind fun bt287 => (if x4_1 < (x272002_1.length : Int) then (spec_l2Mem.l0 k1 (wrap64 (x4_1 + 1)) s0_0 bt287.2 y277 y283 (x272002_1.set (x4_1 : Int).toNat bt287.1)) else (none))) = some (r1, r2, r3, r4) := by first | (rw [hy283]; with_reducible exact H) | (have H2_ := (Option.bind_some _ _).symm.trans H; rw [hy283]; with_reducible exact H2_) | (have H2_ := (Option.bind_some _ _).symm.trans H; with_reducible exact H2_) | with_reducible exact H | (rw [hy283]; exact H) | exact H
       have Ny283 := z0 hy283
       clear hy283
       obtain ⟨y284, hy284⟩ : ∃ y_ : List Int, y_ = (([0, 0, 1, 2, 7, 1000000] : List Int)) := ⟨_, rfl⟩
       replace H : ((spec_l12Rd_num.f k1 s0_0 t282 y284).bind fun bt287 => (if x4_1 < (x272002_1.length : Int) then (spec_l2Mem.l0 k1 (wrap64 (x4_1 + 1)) s0_0 bt287.2 y277 y283 (x272002_1.set (x4_1 : Int).toNat bt287.1)) else (none))) = some (r1, r2, r3, r4) := by first | (rw [hy284]; with_reducible exact H) | (have H2_ := (Option.bind_some _ _).symm.trans H; rw [hy284]; with_reducible exact H2_) | (have H2_ := (Option.bind_some _ _).symm.trans H; with_reducible exact H2_) | with_reducible exact H | (rw [hy284]; exact H) | exact H
       have Ny284 := z0 hy284
       clear hy284
       replace H := Option.bind_eq_some_iff.mp H
       obtain ⟨⟨t287, t288⟩, A200, H⟩ := H
       try dsimp only at H
       have A20 := z0 A200
       clear A200
       by_cases c21 : x4_1 < (x272002_1.length : Int)
       ·rw [if_pos c21] at H
        have c21b0 : decide (x4_1 < (x272002_1.length : Int)) = true := decide_eq_true c21
        clear c21
        obtain ⟨y289, hy289⟩ : ∃ y_ : List Int, y_ = (x272002_1.set (x4_1 : Int).toNat t287) := ⟨_, rfl⟩
        replace H : (spec_l2Mem.l0 k1 (wrap64 (x4_1 + 1)) s0_0 t288 y277 y283 y289) = some (r1, r2, r3, r4) := by first | (rw [hy289]; with_reducible exact H) | (have H2_ := (Option.bind_some _ _).symm.trans H; rw [hy289]; with_reducible exact H2_) | (have H2_ := (Option.bind_some _ _).symm.trans H; with_reducible exact H2_) | with_reducible exact H | (rw [hy289]; exact H) | exact H
        have Ny289 := z0 hy289
        clear hy289
        have H' := z0 H
        clear H
        try go_wp2
        have n_ := az (Kd.R_drew HO_272000.out) <| az (Kd.R_drew HO_272001.out) <| az (Kd.R_drew HO_272002.out) <| az (blk_drew BK261.out) <| az (blk_drew BK271.out) <| az (IsS93.drew HI0.out) <| az (keep_drew HK.out) <| z0 (below_drew1 HB.out)
        clear HO_272000 HO_272001 HO_272002 BK261 BK271 HI0 HK HB
        obtain ⟨HO_272000, HO_272001, HO_272002, BK261, BK271, HI0, HK, HB⟩ := n_
        refine start_ (n := 8) (S := fun w' => w'.cell? ⟨gb271, 0, none⟩ = some (u272000) ∧ w'.cell? ⟨gb271, 1, none⟩ = some (u272001) ∧ w'.cell? ⟨gb271, 2, none⟩ = some (u272002)) (ds := [7]) #[false, false, false, false, false, false, false, false] (by kernel_rfl) rfl rfl q63_1 (fun hHeld => ?_); refine with_tabW spec_l2Mem.tab5 spec_l2Mem.bits5 (fun HT_ HW_ => ?_)
        generalize wr.drew = w23 at HO_272000 HO_272001 HO_272002 BK261 BK271 HI0 HK HB hHeld ⊢
        refine pure_ (i := 0) (N := some 10) (v := ?_) (a' := ?_) #[true, false, false, false, false, false, false, false] rfl rfl (any_of HT_.out (by kernel_rfl)) (fun _ _ _ h => h) (Or.inl ⟨by rfl, ?_⟩) ?_ ?_
        rotate_left
        ·intro w'
         go_simp
         with_reducible rfl
        rotate_left
        ·simp only [Act.put, List.setIfInBounds_toArray, List.set_cons_zero, List.set_cons_succ, i64_w, i32_w]
         rfl
        refine pure_ (i := 2) (N := some 12) (v := ?_) (a' := ?_) #[true, false, true, false, false, false, false, false] rfl rfl (any_of HT_.out (by kernel_rfl)) (fun _ _ _ h => h) (Or.inl ⟨by rfl, ?_⟩) ?_ ?_
        rotate_left
        ·intro w'
         go_simp
         with_reducible rfl
        rotate_left
        ·simp only [Act.put, List.setIfInBounds_toArray, List.set_cons_zero, List.set_cons_succ, i64_w, i32_w]
         rfl
        refine pure_ (i := 3) (N := some 13) (v := ?_) (a' := ?_) #[true, false, true, true, false, false, false, false] rfl rfl (any_of HT_.out (by kernel_rfl)) (fun _ _ _ h => h) (Or.inl ⟨by rfl, ?_⟩) ?_ ?_
        rotate_left
        ·intro w'
         go_simp
         with_reducible rfl
        rotate_left
        ·simp only [Act.put, List.setIfInBounds_toArray, List.set_cons_zero, List.set_cons_succ, i64_w, i32_w]
         rfl
        refine take_ (i := 1) (N := some 11) (v := ?_) (a' := ?_) #[true, true, true, true, false, false, false, false] rfl rfl (take_ofW HT_.out HW_.out (by kernel_rfl)) (fun _ _ _ h => h) (Or.inl ⟨by rfl, ?_⟩) hHeld ?_ ?_
        rotate_left
        ·rintro w' ⟨s0, s1, s2⟩
         go_simp
         with_reducible rfl
        rotate_left
        ·simp only [Act.put, List.setIfInBounds_toArray, List.set_cons_zero, List.set_cons_succ, i64_w, i32_w]
         rfl
        refine one_ (i := 4) (N := some 14) #[true, true, true, true, true, false, false, false] rfl rfl (one_of HT_.out (by kernel_rfl)) (by decide) (fun K hK => ?_)
        refine Kd.R_lit_step (Kd.int .i64) _ 3 ?hg (N := 14) ?hd (xs := ([0, 0, 1, 1, 2, 5, (-1)] : List Int)) (inner := [.int .i64 0, .int .i64 0, .int .i64 1, .int .i64 1, .int .i64 2, .int .i64 5, .int .i64 (-1)]) (ok := fun _ => True) (okp := fun _ => True) ?hr ?hp (fun _ hk => hk) trivial (Below.refl _ _) (Nat.le_refl _) (by simp) ?_; (case hd => rfl); (case hg => rfl); (case hr => first | (go_simp; done) | (go_simp; rfl)); (case hp => exact (Reps.one (show Kd.M (Kd.int .i64) _ _ _ 0 [.int .i64 0] from rfl) (Reps.one (show Kd.M (Kd.int .i64) _ _ _ 0 [.int .i64 0] from rfl) (Reps.one (show Kd.M (Kd.int .i64) _ _ _ 1 [.int .i64 1] from rfl) (Reps.one (show Kd.M (Kd.int .i64) _ _ _ 1 [.int .i64 1] from rfl) (Reps.one (show Kd.M (Kd.int .i64) _ _ _ 2 [.int .i64 2] from rfl) (Reps.one (show Kd.M (Kd.int .i64) _ _ _ 5 [.int .i64 5] from rfl) (Reps.one (show Kd.M (Kd.int .i64) _ _ _ (-1) [.int .i64 (-1)] from rfl) (Reps.none _ _)))))))))
        intro v273 w24 ho25 hb hg_ hnew_
        clear hg_ hnew_
        (first | rw [← Ny272.out] at ho25 | (simp only [Int.reduceToNat] at ho25; rw [← Ny272.out] at ho25))
        have n_ := az (Kd.R_elder' (mR HO_272000.out) (by first | exact Kd.R_base ho25 | exact Kd.R_base ho25) hb) <| az (Kd.R_elder' (mR HO_272001.out) (by first | exact Kd.R_base ho25 | exact Kd.R_base ho25) hb) <| az (Kd.R_elder' (mR HO_272002.out) (by first | exact Kd.R_base ho25 | exact Kd.R_base ho25) hb) <| And.intro (z0 (Kd.R_lower (Kd.R_new' (Kd.R_new' (Kd.R_new' ho25 (Kd.R_lt (mR HO_272000.out))) (Kd.R_lt (mR HO_272001.out))) (Kd.R_lt (mR HO_272002.out))) (kS HK.out))) <| az (bB BK261.out hb) <| az (bB BK271.out hb) <| az (IsS93.below (mI93_1 HI0.out) hb) <| az (KeepBut.trans (mKp HK.out) (KeepBut.of_below hb g none) (.inl rfl)) <| z0 (below_step (mB93HI0 HB.out) hb)
        clear HO_272000 HO_272001 HO_272002 BK261 BK271 HI0 HK HB
        obtain ⟨HO_272000, HO_272001, HO_272002, HO274, BK261, BK271, HI0, HK, HB⟩ := n_
        clear hb ho25
        obtain ⟨Ao26, co26, eo26⟩ := Kd.R_slice HO274.out
        (first | subst eo26 | (injection eo26 with f1_ f2_ f3_; have f4_ := f1_.symm; have f5_ := f3_.symm; clear f1_ f2_ f3_; subst f4_; subst f5_))
        refine hK.out _ _ q63_1 (fun hHeld => ?_)
        clear hK K
        refine norm_ (a' := ?_) ?_ ?_
        rotate_left
        ·show Act.put _ (some 14) _ = _
         simp only [Act.put, List.setIfInBounds_toArray, List.set_cons_zero, List.set_cons_succ, i64_w, i32_w]
         rfl
        refine one_ (i := 5) (N := some 15) #[true, true, true, true, true, true, false, false] rfl rfl (one_of HT_.out (by kernel_rfl)) (by decide) (fun K hK => ?_)
        refine goes_ Tryz.func51 (by kernel_rfl) rfl #[.pointer (some ⟨g, 0, none⟩), .slice Ao26 y272.length co26] (by rfl) rfl rfl argx ?_
        with_reducible refine (spec_l12Rd_num.calls k1 g s0_0 x1001_1 _ _ y272 t275 t276 w0 _ ?side1 ?side2 ?side3 ?side4 ?side5 A13.out).mono ?_
        (case side1 => exact mI93_1 HI0.out)
        (case side2 => exact mB93HI0 HB.out)
        (case side3 => exact mC (Kd.R_reads' HO274.out).2.2)
        (case side4 => exact (Kd.R_reads' HO274.out).2.1)
        (case side5 => exact far_slice (IsS93.own_ne HI0.out HO274.out (by decide)))
        rintro e w27 ⟨rfl, hi, hb, hk⟩
        refine ⟨_, rfl, ?_⟩
        have n_ := And.intro (z0 (Kd.R_mono (Kd.R_keep (IsS93.apart (show IsS93 w0 _ g s0_0 x1001_1 from mI93_1 HI0.out) (mR HO_272000.out) (by decide)) hk (fun _ h => h.2)) (fun _ h => h.1))) <| And.intro (z0 (Kd.R_mono (Kd.R_keep (IsS93.apart (show IsS93 w0 _ g s0_0 x1001_1 from mI93_1 HI0.out) (mR HO_272001.out) (by decide)) hk (fun _ h => h.2)) (fun _ h => h.1))) <| And.intro (z0 (Kd.R_mono (Kd.R_keep (IsS93.apart (show IsS93 w0 _ g s0_0 x1001_1 from mI93_1 HI0.out) (mR HO_272002.out) (by decide)) hk (fun _ h => h.2)) (fun _ h => h.1))) <| az (kB hk BK261.out NB261_0.out) <| az (kB hk BK271.out NB271_0.out) <| And.intro (z0 (Kd.R_mono (Kd.R_keep (IsS93.apart (show IsS93 w0 _ g s0_0 x1001_1 from mI93_1 HI0.out) (mR HO274.out) (by decide)) hk (fun _ h => h.2)) (fun _ h => h.1))) <| az (KeepBut.trans (mKp HK.out) hk (.inl rfl)) <| az (hb) <| z0 (hi)
        clear HO_272000 HO_272001 HO_272002 BK261 BK271 HO274 HK HB HI0
        obtain ⟨HO_272000, HO_272001, HO_272002, BK261, BK271, HO274, HK, HB, HI0⟩ := n_
        (try clear hb)
        (try clear hb2)
        (try clear hk)
        (try clear hi)
        have p16 : 0 ≤ (x4_1 : Int) := of_decide_eq_true (by first | (with_reducible assumption) | assumption)
        have q16 : (x4_1 : Int) < ((x272000_1.length : Int) : Int) := of_decide_eq_true (by first | (with_reducible assumption) | assumption)
        obtain ⟨go16, co16, eo16, gb16, gl16, cl16, HG16⟩ := Kd.R_form HO_272000.out (by omega)
        (first | cases eo16 | (injection eo16 with ea_ en_ ec_; (first | subst ea_ | (injection ea_ with ea_; subst ea_)); subst ec_; clear en_))
        have GB16 := z0 gb16
        have GG16 := z0 HG16
        clear gb16 gl16 HG16
        obtain ⟨hx16_0, hf16_0⟩ := Kd.R_celln 0 HO_272000.out (x4_1 : Int) p16 q16
        replace p16 := eq_true p16
        replace q16 := eq_true q16
        have HN0_go16 := z0 (show g ≠ go16 from by have h_ := IsS93.own_ne HI0.out HO_272000.out (by decide); intro e_; exact h_ (by rw [e_]; rfl))
        have HP28 := Kd.R_putn HO_272000.out (x4_1 : Int) t275
        rw [← Ny277.out] at HP28
        have HQ28 := z0 HP28
        clear HP28
        refine hK.out _ _ q63_1 (fun hHeld => ?_)
        clear hK K
        refine norm_ (a' := ?_) ?_ ?_
        rotate_left
        ·show Act.put _ (some 15) _ = _
         simp only [Act.put, List.setIfInBounds_toArray, List.set_cons_zero, List.set_cons_succ, i64_w, i32_w]
         rfl
        refine pure_ (i := 6) (N := some 16) (v := ?_) (a' := ?_) #[true, true, true, true, true, true, true, false] rfl rfl (any_of HT_.out (by kernel_rfl)) (fun _ _ _ h => h) (Or.inl ⟨by rfl, ?_⟩) ?_ ?_
        rotate_left
        ·intro w'
         go_simp
         with_reducible rfl
        rotate_left
        ·simp only [Act.put, List.setIfInBounds_toArray, List.set_cons_zero, List.set_cons_succ, i64_w, i32_w]
         rfl
        refine last_ (i := 7) (N := none) #[true, true, true, true, true, true, true, true] rfl rfl (one_of HT_.out (by kernel_rfl)) (by decide) (fun K hK => ?_)
        refine skip_ (w1 := ?_) (by rfl) rfl ?_ ?_
        rotate_left
        ·go_simp
         rfl
        refine hK.out _ _ ?_
        clear hK K
        refine done_ (done_of HT_.out (by kernel_rfl)) ?_
        try go_wp2
        have n0_ : Aside0 (Kd.R (Kd.int .i64) 3 (w27.setCell ⟨go16, (x4_1 : Int).toNat, none⟩ (.int .i64 t275)) w.heap.size (fun k_ => nB k_ u272001 ∧ nB k_ u272002 ∧ nB k_ (.slice Ao26 y272.length co26)) (.slice (some ⟨go16, 0, none⟩) x272000_1.length co16) y277) := ⟨by (with_reducible repeat (first | apply Kd.R_alloc | apply Kd.R_drewN | apply Kd.R_drew)); exact Kd.R_mono HQ28.out (fun _ hk => ⟨hk.1.1, ⟨hk.1.2, hk.2⟩⟩)⟩
        have n1_ : Aside0 (Kd.R (Kd.int .i64) 3 (w27.setCell ⟨go16, (x4_1 : Int).toNat, none⟩ (.int .i64 t275)) w.heap.size (fun k_ => some k_ ≠ (.slice (some ⟨go16, 0, none⟩) x272000_1.length co16 : Value).ownBlock ∧ nB k_ u272002 ∧ nB k_ (.slice Ao26 y272.length co26)) u272001 x272001_1) := ⟨by (with_reducible repeat (first | apply Kd.R_alloc | apply Kd.R_drewN | apply Kd.R_drew)); exact Kd.R_mono (Kd.R_far (p := ⟨go16, (x4_1 : Int).toNat, none⟩) (Kd.R_mono HO_272001.out (fun k_ hk => (⟨hk, fun e_ => hk.1.1 (by rw [e_]; rfl)⟩ : _ ∧ k_ ≠ go16))) (fun _ hk => hk.2) (.int .i64 t275)) (fun _ hk => ⟨hk.1.1.1, ⟨hk.1.1.2, hk.1.2⟩⟩)⟩
        have n2_ : Aside0 (Kd.R (Kd.int .i64) 3 (w27.setCell ⟨go16, (x4_1 : Int).toNat, none⟩ (.int .i64 t275)) w.heap.size (fun k_ => some k_ ≠ (.slice (some ⟨go16, 0, none⟩) x272000_1.length co16 : Value).ownBlock ∧ nB k_ u272001 ∧ nB k_ (.slice Ao26 y272.length co26)) u272002 x272002_1) := ⟨by (with_reducible repeat (first | apply Kd.R_alloc | apply Kd.R_drewN | apply Kd.R_drew)); exact Kd.R_mono (Kd.R_far (p := ⟨go16, (x4_1 : Int).toNat, none⟩) (Kd.R_mono HO_272002.out (fun k_ hk => (⟨hk, fun e_ => hk.1.1 (by rw [e_]; rfl)⟩ : _ ∧ k_ ≠ go16))) (fun _ hk => hk.2) (.int .i64 t275)) (fun _ hk => ⟨hk.1.1.1, ⟨hk.1.1.2, hk.1.2⟩⟩)⟩
        have n3_ : Aside0 (Kd.R (Kd.int .i64) 3 (w27.setCell ⟨go16, (x4_1 : Int).toNat, none⟩ (.int .i64 t275)) w.heap.size (fun k_ => some k_ ≠ (.slice (some ⟨go16, 0, none⟩) x272000_1.length co16 : Value).ownBlock ∧ nB k_ u272001 ∧ nB k_ u272002) (.slice Ao26 y272.length co26) y272) := ⟨by (with_reducible repeat (first | apply Kd.R_alloc | apply Kd.R_drewN | apply Kd.R_drew)); exact Kd.R_mono (Kd.R_far (p := ⟨go16, (x4_1 : Int).toNat, none⟩) (Kd.R_mono HO274.out (fun k_ hk => (⟨hk, fun e_ => hk.1.1.2 (by rw [e_]; rfl)⟩ : _ ∧ k_ ≠ go16))) (fun _ hk => hk.2) (.int .i64 t275)) (fun _ hk => ⟨hk.1.1.1.2, ⟨hk.1.1.2, hk.1.2⟩⟩)⟩
        have n4_ : Aside0 ((w27.setCell ⟨go16, (x4_1 : Int).toNat, none⟩ (.int .i64 t275)).heap[gb261]? = some (.cells #[.slice none 0 0, .slice none 0 0, .slice none 0 0] 30 (0, 0))) := ⟨by (with_reducible repeat (first | refine blk_drewN ?_ _ | refine blk_drew ?_ | refine blk_alloc ?_ _)); refine blk_far ?_ (by have h_ := Kd.R_ne HO_272000.out BK261.out (by decide); intro e_; exact h_ (by rw [e_]; rfl)) _; (with_reducible repeat (first | refine blk_drewN ?_ _ | refine blk_drew ?_ | refine blk_alloc ?_ _)); exact BK261.out⟩
        have n5_ : Aside0 ((w27.setCell ⟨go16, (x4_1 : Int).toNat, none⟩ (.int .i64 t275)).heap[gb271]? = some (.cells #[.slice (some ⟨go16, 0, none⟩) x272000_1.length co16, u272001, u272002] 30 (0, 0))) := ⟨by (with_reducible repeat (first | refine blk_drewN ?_ _ | refine blk_drew ?_ | refine blk_alloc ?_ _)); refine blk_far ?_ (by have h_ := Kd.R_ne HO_272000.out BK271.out (by decide); intro e_; exact h_ (by rw [e_]; rfl)) _; (with_reducible repeat (first | refine blk_drewN ?_ _ | refine blk_drew ?_ | refine blk_alloc ?_ _)); exact BK271.out⟩
        have n6_ : Aside0 (IsS93 w0 (w27.setCell ⟨go16, (x4_1 : Int).toNat, none⟩ (.int .i64 t275)) g s0_0 t276) := ⟨mI93_1 HI0.out⟩
        have n7_ : Aside0 (KeepBut w (w27.setCell ⟨go16, (x4_1 : Int).toNat, none⟩ (.int .i64 t275)) g none) := ⟨mKp HK.out⟩
        have n8_ : Aside0 (Below w0.heap.size w0 (w27.setCell ⟨go16, (x4_1 : Int).toNat, none⟩ (.int .i64 t275))) := ⟨by repeat (first | (with_reducible first | exact HB.out | apply below_alloc | apply pw_below_drewN | apply below_drew1 | refine below_set ?_ (Nat.le_trans HL.out GB16.out) | refine below_set ?_ (IsS93.ge HI0.out) | refine below_set ?_ GE261.out | refine below_set ?_ GE271.out) | exact HB.out)⟩
        (try clear HO_272000)
        (try clear HO_272001)
        (try clear HO_272002)
        (try clear HO274)
        (try clear BK261)
        (try clear BK271)
        (try clear HI0)
        (try clear HK)
        (try clear HB)
        generalize (w27.setCell ⟨go16, (x4_1 : Int).toNat, none⟩ (.int .i64 t275)) = w29 at n0_ n1_ n2_ n3_ n4_ n5_ n6_ n7_ n8_ ⊢
        have HO_272000 := n0_
        have HO_272001 := n1_
        have HO_272002 := n2_
        have HO274 := n3_
        have BK261 := n4_
        have BK271 := n5_
        have HI0 := n6_
        have HK := n7_
        have HB := n8_
        clear n0_ n1_ n2_ n3_ n4_ n5_ n6_ n7_ n8_
        have n_ := az (Kd.R_drew HO_272000.out) <| az (Kd.R_drew HO_272001.out) <| az (Kd.R_drew HO_272002.out) <| az (Kd.R_drew HO274.out) <| az (blk_drew BK261.out) <| az (blk_drew BK271.out) <| az (IsS93.drew HI0.out) <| az (keep_drew HK.out) <| z0 (below_drew1 HB.out)
        clear HO_272000 HO_272001 HO_272002 HO274 BK261 BK271 HI0 HK HB
        obtain ⟨HO_272000, HO_272001, HO_272002, HO274, BK261, BK271, HI0, HK, HB⟩ := n_
        refine start_ (n := 8) (S := fun w' => w'.cell? ⟨gb271, 0, none⟩ = some (.slice (some ⟨go16, 0, none⟩) x272000_1.length co16) ∧ w'.cell? ⟨gb271, 1, none⟩ = some (u272001) ∧ w'.cell? ⟨gb271, 2, none⟩ = some (u272002)) (ds := [7]) #[false, false, false, false, false, false, false, false] (by kernel_rfl) rfl rfl q63_1 (fun hHeld => ?_); refine with_tabW spec_l2Mem.tab6 spec_l2Mem.bits6 (fun HT_ HW_ => ?_)
        generalize w29.drew = w30 at HO_272000 HO_272001 HO_272002 HO274 BK261 BK271 HI0 HK HB HQ28 hHeld ⊢
        refine pure_ (i := 0) (N := some 17) (v := ?_) (a' := ?_) #[true, false, false, false, false, false, false, false] rfl rfl (any_of HT_.out (by kernel_rfl)) (fun _ _ _ h => h) (Or.inl ⟨by rfl, ?_⟩) ?_ ?_
        rotate_left
        ·intro w'
         go_simp
         with_reducible rfl
        rotate_left
        ·simp only [Act.put, List.setIfInBounds_toArray, List.set_cons_zero, List.set_cons_succ, i64_w, i32_w]
         rfl
        refine pure_ (i := 2) (N := some 19) (v := ?_) (a' := ?_) #[true, false, true, false, false, false, false, false] rfl rfl (any_of HT_.out (by kernel_rfl)) (fun _ _ _ h => h) (Or.inl ⟨by rfl, ?_⟩) ?_ ?_
        rotate_left
        ·intro w'
         go_simp
         with_reducible rfl
        rotate_left
        ·simp only [Act.put, List.setIfInBounds_toArray, List.set_cons_zero, List.set_cons_succ, i64_w, i32_w]
         rfl
        refine pure_ (i := 3) (N := some 20) (v := ?_) (a' := ?_) #[true, false, true, true, false, false, false, false] rfl rfl (any_of HT_.out (by kernel_rfl)) (fun _ _ _ h => h) (Or.inl ⟨by rfl, ?_⟩) ?_ ?_
        rotate_left
        ·intro w'
         go_simp
         with_reducible rfl
        rotate_left
        ·simp only [Act.put, List.setIfInBounds_toArray, List.set_cons_zero, List.set_cons_succ, i64_w, i32_w]
         rfl
        refine take_ (i := 1) (N := some 18) (v := ?_) (a' := ?_) #[true, true, true, true, false, false, false, false] rfl rfl (take_ofW HT_.out HW_.out (by kernel_rfl)) (fun _ _ _ h => h) (Or.inl ⟨by rfl, ?_⟩) hHeld ?_ ?_
        rotate_left
        ·rintro w' ⟨s0, s1, s2⟩
         go_simp
         with_reducible rfl
        rotate_left
        ·simp only [Act.put, List.setIfInBounds_toArray, List.set_cons_zero, List.set_cons_succ, i64_w, i32_w]
         rfl
        refine one_ (i := 4) (N := some 21) #[true, true, true, true, true, false, false, false] rfl rfl (one_of HT_.out (by kernel_rfl)) (by decide) (fun K hK => ?_)
        refine Kd.R_lit_step (Kd.int .i64) _ 3 ?hg (N := 21) ?hd (xs := ([0, 0, 1, 3] : List Int)) (inner := [.int .i64 0, .int .i64 0, .int .i64 1, .int .i64 3]) (ok := fun _ => True) (okp := fun _ => True) ?hr ?hp (fun _ hk => hk) trivial (Below.refl _ _) (Nat.le_refl _) (by simp) ?_; (case hd => rfl); (case hg => rfl); (case hr => first | (go_simp; done) | (go_simp; rfl)); (case hp => exact (Reps.one (show Kd.M (Kd.int .i64) _ _ _ 0 [.int .i64 0] from rfl) (Reps.one (show Kd.M (Kd.int .i64) _ _ _ 0 [.int .i64 0] from rfl) (Reps.one (show Kd.M (Kd.int .i64) _ _ _ 1 [.int .i64 1] from rfl) (Reps.one (show Kd.M (Kd.int .i64) _ _ _ 3 [.int .i64 3] from rfl) (Reps.none _ _))))))
        intro v279 w31 ho32 hb hg_ hnew_
        clear hg_ hnew_
        (first | rw [← Ny278.out] at ho32 | (simp only [Int.reduceToNat] at ho32; rw [← Ny278.out] at ho32))
        have n_ := az (Kd.R_elder' (mR HO_272000.out) (by first | exact Kd.R_base ho32 | exact Kd.R_base ho32) hb) <| az (Kd.R_elder' (mR HO_272001.out) (by first | exact Kd.R_base ho32 | exact Kd.R_base ho32) hb) <| az (Kd.R_elder' (mR HO_272002.out) (by first | exact Kd.R_base ho32 | exact Kd.R_base ho32) hb) <| az (Kd.R_elder' (mR HO274.out) (by first | exact Kd.R_base ho32 | exact Kd.R_base ho32) hb) <| And.intro (z0 (Kd.R_lower (Kd.R_new' (Kd.R_new' (Kd.R_new' (Kd.R_new' ho32 (Kd.R_lt (mR HO_272000.out))) (Kd.R_lt (mR HO_272001.out))) (Kd.R_lt (mR HO_272002.out))) (Kd.R_lt (mR HO274.out))) (kS HK.out))) <| az (bB BK261.out hb) <| az (bB BK271.out hb) <| az (IsS93.below (mI93_1 HI0.out) hb) <| az (KeepBut.trans (mKp HK.out) (KeepBut.of_below hb g none) (.inl rfl)) <| z0 (below_step (mB93HI0 HB.out) hb)
        clear HO_272000 HO_272001 HO_272002 HO274 BK261 BK271 HI0 HK HB
        obtain ⟨HO_272000, HO_272001, HO_272002, HO274, HO280, BK261, BK271, HI0, HK, HB⟩ := n_
        clear hb ho32
        obtain ⟨Ao33, co33, eo33⟩ := Kd.R_slice HO280.out
        (first | subst eo33 | (injection eo33 with f1_ f2_ f3_; have f4_ := f1_.symm; have f5_ := f3_.symm; clear f1_ f2_ f3_; subst f4_; subst f5_))
        refine hK.out _ _ q63_1 (fun hHeld => ?_)
        clear hK K
        refine norm_ (a' := ?_) ?_ ?_
        rotate_left
        ·show Act.put _ (some 21) _ = _
         simp only [Act.put, List.setIfInBounds_toArray, List.set_cons_zero, List.set_cons_succ, i64_w, i32_w]
         rfl
        refine one_ (i := 5) (N := some 22) #[true, true, true, true, true, true, false, false] rfl rfl (one_of HT_.out (by kernel_rfl)) (by decide) (fun K hK => ?_)
        refine goes_ Tryz.func51 (by kernel_rfl) rfl #[.pointer (some ⟨g, 0, none⟩), .slice Ao33 y278.length co33] (by rfl) rfl rfl argx ?_
        with_reducible refine (spec_l12Rd_num.calls k1 g s0_0 t276 _ _ y278 t281 t282 w0 _ ?side1 ?side2 ?side3 ?side4 ?side5 A17.out).mono ?_
        (case side1 => exact mI93_1 HI0.out)
        (case side2 => exact mB93HI0 HB.out)
        (case side3 => exact mC (Kd.R_reads' HO280.out).2.2)
        (case side4 => exact (Kd.R_reads' HO280.out).2.1)
        (case side5 => exact far_slice (IsS93.own_ne HI0.out HO280.out (by decide)))
        rintro e w34 ⟨rfl, hi, hb, hk⟩
        refine ⟨_, rfl, ?_⟩
        have n_ := And.intro (z0 (Kd.R_mono (Kd.R_keep (IsS93.apart (show IsS93 w0 _ g s0_0 t276 from mI93_1 HI0.out) (mR HO_272000.out) (by decide)) hk (fun _ h => h.2)) (fun _ h => h.1))) <| And.intro (z0 (Kd.R_mono (Kd.R_keep (IsS93.apart (show IsS93 w0 _ g s0_0 t276 from mI93_1 HI0.out) (mR HO_272001.out) (by decide)) hk (fun _ h => h.2)) (fun _ h => h.1))) <| And.intro (z0 (Kd.R_mono (Kd.R_keep (IsS93.apart (show IsS93 w0 _ g s0_0 t276 from mI93_1 HI0.out) (mR HO_272002.out) (by decide)) hk (fun _ h => h.2)) (fun _ h => h.1))) <| az (kB hk BK261.out NB261_0.out) <| az (kB hk BK271.out NB271_0.out) <| And.intro (z0 (Kd.R_mono (Kd.R_keep (IsS93.apart (show IsS93 w0 _ g s0_0 t276 from mI93_1 HI0.out) (mR HO274.out) (by decide)) hk (fun _ h => h.2)) (fun _ h => h.1))) <| And.intro (z0 (Kd.R_mono (Kd.R_keep (IsS93.apart (show IsS93 w0 _ g s0_0 t276 from mI93_1 HI0.out) (mR HO280.out) (by decide)) hk (fun _ h => h.2)) (fun _ h => h.1))) <| az (KeepBut.trans (mKp HK.out) hk (.inl rfl)) <| az (hb) <| z0 (hi)
        clear HO_272000 HO_272001 HO_272002 BK261 BK271 HO274 HO280 HK HB HI0
        obtain ⟨HO_272000, HO_272001, HO_272002, BK261, BK271, HO274, HO280, HK, HB, HI0⟩ := n_
        (try clear hb)
        (try clear hb2)
        (try clear hk)
        (try clear hi)
        have p19 : 0 ≤ (x4_1 : Int) := of_decide_eq_true (by first | (with_reducible assumption) | assumption)
        have q19 : (x4_1 : Int) < ((x272001_1.length : Int) : Int) := of_decide_eq_true (by first | (with_reducible assumption) | assumption)
        obtain ⟨go19, co19, eo19, gb19, gl19, cl19, HG19⟩ := Kd.R_form HO_272001.out (by omega)
        (first | cases eo19 | (injection eo19 with ea_ en_ ec_; (first | subst ea_ | (injection ea_ with ea_; subst ea_)); subst ec_; clear en_))
        have GB19 := z0 gb19
        have GG19 := z0 HG19
        clear gb19 gl19 HG19
        obtain ⟨hx19_0, hf19_0⟩ := Kd.R_celln 0 HO_272001.out (x4_1 : Int) p19 q19
        replace p19 := eq_true p19
        replace q19 := eq_true q19
        have HN0_go19 := z0 (show g ≠ go19 from by have h_ := IsS93.own_ne HI0.out HO_272001.out (by decide); intro e_; exact h_ (by rw [e_]; rfl))
        have HP35 := Kd.R_putn HO_272001.out (x4_1 : Int) t281
        rw [← Ny283.out] at HP35
        have HQ35 := z0 HP35
        clear HP35
        refine hK.out _ _ q63_1 (fun hHeld => ?_)
        clear hK K
        refine norm_ (a' := ?_) ?_ ?_
        rotate_left
        ·show Act.put _ (some 22) _ = _
         simp only [Act.put, List.setIfInBounds_toArray, List.set_cons_zero, List.set_cons_succ, i64_w, i32_w]
         rfl
        refine pure_ (i := 6) (N := some 23) (v := ?_) (a' := ?_) #[true, true, true, true, true, true, true, false] rfl rfl (any_of HT_.out (by kernel_rfl)) (fun _ _ _ h => h) (Or.inl ⟨by rfl, ?_⟩) ?_ ?_
        rotate_left
        ·intro w'
         go_simp
         with_reducible rfl
        rotate_left
        ·simp only [Act.put, List.setIfInBounds_toArray, List.set_cons_zero, List.set_cons_succ, i64_w, i32_w]
         rfl
        refine last_ (i := 7) (N := none) #[true, true, true, true, true, true, true, true] rfl rfl (one_of HT_.out (by kernel_rfl)) (by decide) (fun K hK => ?_)
        refine skip_ (w1 := ?_) (by rfl) rfl ?_ ?_
        rotate_left
        ·go_simp
         rfl
        refine hK.out _ _ ?_
        clear hK K
        refine done_ (done_of HT_.out (by kernel_rfl)) ?_
        try go_wp2
        have n0_ : Aside0 (Kd.R (Kd.int .i64) 3 (w34.setCell ⟨go19, (x4_1 : Int).toNat, none⟩ (.int .i64 t281)) w.heap.size (fun k_ => some k_ ≠ (.slice (some ⟨go19, 0, none⟩) x272001_1.length co19 : Value).ownBlock ∧ nB k_ u272002 ∧ nB k_ (.slice Ao26 y272.length co26) ∧ nB k_ (.slice Ao33 y278.length co33)) (.slice (some ⟨go16, 0, none⟩) x272000_1.length co16) y277) := ⟨by (with_reducible repeat (first | apply Kd.R_alloc | apply Kd.R_drewN | apply Kd.R_drew)); exact Kd.R_mono (Kd.R_far (p := ⟨go19, (x4_1 : Int).toNat, none⟩) (Kd.R_mono HO_272000.out (fun k_ hk => (⟨hk, fun e_ => hk.1.1 (by rw [e_]; rfl)⟩ : _ ∧ k_ ≠ go19))) (fun _ hk => hk.2) (.int .i64 t281)) (fun _ hk => ⟨hk.1.1.1, ⟨hk.1.1.2.1, ⟨hk.1.1.2.2, hk.1.2⟩⟩⟩)⟩
        have n1_ : Aside0 (Kd.R (Kd.int .i64) 3 (w34.setCell ⟨go19, (x4_1 : Int).toNat, none⟩ (.int .i64 t281)) w.heap.size (fun k_ => some k_ ≠ (.slice (some ⟨go16, 0, none⟩) x272000_1.length co16 : Value).ownBlock ∧ nB k_ u272002 ∧ nB k_ (.slice Ao26 y272.length co26) ∧ nB k_ (.slice Ao33 y278.length co33)) (.slice (some ⟨go19, 0, none⟩) x272001_1.length co19) y283) := ⟨by (with_reducible repeat (first | apply Kd.R_alloc | apply Kd.R_drewN | apply Kd.R_drew)); exact Kd.R_mono HQ35.out (fun _ hk => ⟨hk.1.1, ⟨hk.1.2.1, ⟨hk.1.2.2, hk.2⟩⟩⟩)⟩
        have n2_ : Aside0 (Kd.R (Kd.int .i64) 3 (w34.setCell ⟨go19, (x4_1 : Int).toNat, none⟩ (.int .i64 t281)) w.heap.size (fun k_ => some k_ ≠ (.slice (some ⟨go16, 0, none⟩) x272000_1.length co16 : Value).ownBlock ∧ some k_ ≠ (.slice (some ⟨go19, 0, none⟩) x272001_1.length co19 : Value).ownBlock ∧ nB k_ (.slice Ao26 y272.length co26) ∧ nB k_ (.slice Ao33 y278.length co33)) u272002 x272002_1) := ⟨by (with_reducible repeat (first | apply Kd.R_alloc | apply Kd.R_drewN | apply Kd.R_drew)); exact Kd.R_mono (Kd.R_far (p := ⟨go19, (x4_1 : Int).toNat, none⟩) (Kd.R_mono HO_272002.out (fun k_ hk => (⟨hk, fun e_ => hk.1.2.1 (by rw [e_]; rfl)⟩ : _ ∧ k_ ≠ go19))) (fun _ hk => hk.2) (.int .i64 t281)) (fun _ hk => ⟨hk.1.1.1, ⟨hk.1.1.2.1, ⟨hk.1.1.2.2, hk.1.2⟩⟩⟩)⟩
        have n3_ : Aside0 (Kd.R (Kd.int .i64) 3 (w34.setCell ⟨go19, (x4_1 : Int).toNat, none⟩ (.int .i64 t281)) w.heap.size (fun k_ => some k_ ≠ (.slice (some ⟨go16, 0, none⟩) x272000_1.length co16 : Value).ownBlock ∧ some k_ ≠ (.slice (some ⟨go19, 0, none⟩) x272001_1.length co19 : Value).ownBlock ∧ nB k_ u272002 ∧ nB k_ (.slice Ao33 y278.length co33)) (.slice Ao26 y272.length co26) y272) := ⟨by (with_reducible repeat (first | apply Kd.R_alloc | apply Kd.R_drewN | apply Kd.R_drew)); exact Kd.R_mono (Kd.R_far (p := ⟨go19, (x4_1 : Int).toNat, none⟩) (Kd.R_mono HO274.out (fun k_ hk => (⟨hk, fun e_ => hk.1.2.1 (by rw [e_]; rfl)⟩ : _ ∧ k_ ≠ go19))) (fun _ hk => hk.2) (.int .i64 t281)) (fun _ hk => ⟨hk.1.1.1, ⟨hk.1.1.2.1, ⟨hk.1.1.2.2, hk.1.2⟩⟩⟩)⟩
        have n4_ : Aside0 (Kd.R (Kd.int .i64) 3 (w34.setCell ⟨go19, (x4_1 : Int).toNat, none⟩ (.int .i64 t281)) w.heap.size (fun k_ => some k_ ≠ (.slice (some ⟨go16, 0, none⟩) x272000_1.length co16 : Value).ownBlock ∧ some k_ ≠ (.slice (some ⟨go19, 0, none⟩) x272001_1.length co19 : Value).ownBlock ∧ nB k_ u272002 ∧ nB k_ (.slice Ao26 y272.length co26)) (.slice Ao33 y278.length co33) y278) := ⟨by (with_reducible repeat (first | apply Kd.R_alloc | apply Kd.R_drewN | apply Kd.R_drew)); exact Kd.R_mono (Kd.R_far (p := ⟨go19, (x4_1 : Int).toNat, none⟩) (Kd.R_mono HO280.out (fun k_ hk => (⟨hk, fun e_ => hk.1.1.2 (by rw [e_]; rfl)⟩ : _ ∧ k_ ≠ go19))) (fun _ hk => hk.2) (.int .i64 t281)) (fun _ hk => ⟨hk.1.1.1.1.2, ⟨hk.1.1.1.2, ⟨hk.1.1.2, hk.1.2⟩⟩⟩)⟩
        have n5_ : Aside0 ((w34.setCell ⟨go19, (x4_1 : Int).toNat, none⟩ (.int .i64 t281)).heap[gb261]? = some (.cells #[.slice none 0 0, .slice none 0 0, .slice none 0 0] 30 (0, 0))) := ⟨by (with_reducible repeat (first | refine blk_drewN ?_ _ | refine blk_drew ?_ | refine blk_alloc ?_ _)); refine blk_far ?_ (by have h_ := Kd.R_ne HO_272001.out BK261.out (by decide); intro e_; exact h_ (by rw [e_]; rfl)) _; (with_reducible repeat (first | refine blk_drewN ?_ _ | refine blk_drew ?_ | refine blk_alloc ?_ _)); exact BK261.out⟩
        have n6_ : Aside0 ((w34.setCell ⟨go19, (x4_1 : Int).toNat, none⟩ (.int .i64 t281)).heap[gb271]? = some (.cells #[.slice (some ⟨go16, 0, none⟩) x272000_1.length co16, .slice (some ⟨go19, 0, none⟩) x272001_1.length co19, u272002] 30 (0, 0))) := ⟨by (with_reducible repeat (first | refine blk_drewN ?_ _ | refine blk_drew ?_ | refine blk_alloc ?_ _)); refine blk_far ?_ (by have h_ := Kd.R_ne HO_272001.out BK271.out (by decide); intro e_; exact h_ (by rw [e_]; rfl)) _; (with_reducible repeat (first | refine blk_drewN ?_ _ | refine blk_drew ?_ | refine blk_alloc ?_ _)); exact BK271.out⟩
        have n7_ : Aside0 (IsS93 w0 (w34.setCell ⟨go19, (x4_1 : Int).toNat, none⟩ (.int .i64 t281)) g s0_0 t282) := ⟨mI93_1 HI0.out⟩
        have n8_ : Aside0 (KeepBut w (w34.setCell ⟨go19, (x4_1 : Int).toNat, none⟩ (.int .i64 t281)) g none) := ⟨mKp HK.out⟩
        have n9_ : Aside0 (Below w0.heap.size w0 (w34.setCell ⟨go19, (x4_1 : Int).toNat, none⟩ (.int .i64 t281))) := ⟨by repeat (first | (with_reducible first | exact HB.out | apply below_alloc | apply pw_below_drewN | apply below_drew1 | refine below_set ?_ (Nat.le_trans HL.out GB19.out) | refine below_set ?_ (IsS93.ge HI0.out) | refine below_set ?_ GE261.out | refine below_set ?_ GE271.out) | exact HB.out)⟩
        (try clear HO_272000)
        (try clear HO_272001)
        (try clear HO_272002)
        (try clear HO274)
        (try clear HO280)
        (try clear BK261)
        (try clear BK271)
        (try clear HI0)
        (try clear HK)
        (try clear HB)
        generalize (w34.setCell ⟨go19, (x4_1 : Int).toNat, none⟩ (.int .i64 t281)) = w36 at n0_ n1_ n2_ n3_ n4_ n5_ n6_ n7_ n8_ n9_ ⊢
        have HO_272000 := n0_
        have HO_272001 := n1_
        have HO_272002 := n2_
        have HO274 := n3_
        have HO280 := n4_
        have BK261 := n5_
        have BK271 := n6_
        have HI0 := n7_
        have HK := n8_
        have HB := n9_
        clear n0_ n1_ n2_ n3_ n4_ n5_ n6_ n7_ n8_ n9_
        have n_ := az (Kd.R_drew HO_272000.out) <| az (Kd.R_drew HO_272001.out) <| az (Kd.R_drew HO_272002.out) <| az (Kd.R_drew HO274.out) <| az (Kd.R_drew HO280.out) <| az (blk_drew BK261.out) <| az (blk_drew BK271.out) <| az (IsS93.drew HI0.out) <| az (keep_drew HK.out) <| z0 (below_drew1 HB.out)
        clear HO_272000 HO_272001 HO_272002 HO274 HO280 BK261 BK271 HI0 HK HB
        obtain ⟨HO_272000, HO_272001, HO_272002, HO274, HO280, BK261, BK271, HI0, HK, HB⟩ := n_
        refine start_ (n := 8) (S := fun w' => w'.cell? ⟨gb271, 0, none⟩ = some (.slice (some ⟨go16, 0, none⟩) x272000_1.length co16) ∧ w'.cell? ⟨gb271, 1, none⟩ = some (.slice (some ⟨go19, 0, none⟩) x272001_1.length co19) ∧ w'.cell? ⟨gb271, 2, none⟩ = some (u272002)) (ds := [7]) #[false, false, false, false, false, false, false, false] (by kernel_rfl) rfl rfl q63_1 (fun hHeld => ?_); refine with_tabW spec_l2Mem.tab7 spec_l2Mem.bits7 (fun HT_ HW_ => ?_)
        generalize w36.drew = w37 at HO_272000 HO_272001 HO_272002 HO274 HO280 BK261 BK271 HI0 HK HB HQ35 hHeld ⊢
        refine pure_ (i := 0) (N := some 24) (v := ?_) (a' := ?_) #[true, false, false, false, false, false, false, false] rfl rfl (any_of HT_.out (by kernel_rfl)) (fun _ _ _ h => h) (Or.inl ⟨by rfl, ?_⟩) ?_ ?_
        rotate_left
        ·intro w'
         go_simp
         with_reducible rfl
        rotate_left
        ·simp only [Act.put, List.setIfInBounds_toArray, List.set_cons_zero, List.set_cons_succ, i64_w, i32_w]
         rfl
        refine pure_ (i := 2) (N := some 26) (v := ?_) (a' := ?_) #[true, false, true, false, false, false, false, false] rfl rfl (any_of HT_.out (by kernel_rfl)) (fun _ _ _ h => h) (Or.inl ⟨by rfl, ?_⟩) ?_ ?_
        rotate_left
        ·intro w'
         go_simp
         with_reducible rfl
        rotate_left
        ·simp only [Act.put, List.setIfInBounds_toArray, List.set_cons_zero, List.set_cons_succ, i64_w, i32_w]
         rfl
        refine pure_ (i := 3) (N := some 27) (v := ?_) (a' := ?_) #[true, false, true, true, false, false, false, false] rfl rfl (any_of HT_.out (by kernel_rfl)) (fun _ _ _ h => h) (Or.inl ⟨by rfl, ?_⟩) ?_ ?_
        rotate_left
        ·intro w'
         go_simp
         with_reducible rfl
        rotate_left
        ·simp only [Act.put, List.setIfInBounds_toArray, List.set_cons_zero, List.set_cons_succ, i64_w, i32_w]
         rfl
        refine take_ (i := 1) (N := some 25) (v := ?_) (a' := ?_) #[true, true, true, true, false, false, false, false] rfl rfl (take_ofW HT_.out HW_.out (by kernel_rfl)) (fun _ _ _ h => h) (Or.inl ⟨by rfl, ?_⟩) hHeld ?_ ?_
        rotate_left
        ·rintro w' ⟨s0, s1, s2⟩
         go_simp
         with_reducible rfl
        rotate_left
        ·simp only [Act.put, List.setIfInBounds_toArray, List.set_cons_zero, List.set_cons_succ, i64_w, i32_w]
         rfl
        refine one_ (i := 4) (N := some 28) #[true, true, true, true, true, false, false, false] rfl rfl (one_of HT_.out (by kernel_rfl)) (by decide) (fun K hK => ?_)
        refine Kd.R_lit_step (Kd.int .i64) _ 3 ?hg (N := 28) ?hd (xs := ([0, 0, 1, 2, 7, 1000000] : List Int)) (inner := [.int .i64 0, .int .i64 0, .int .i64 1, .int .i64 2, .int .i64 7, .int .i64 1000000]) (ok := fun _ => True) (okp := fun _ => True) ?hr ?hp (fun _ hk => hk) trivial (Below.refl _ _) (Nat.le_refl _) (by simp) ?_; (case hd => rfl); (case hg => rfl); (case hr => first | (go_simp; done) | (go_simp; rfl)); (case hp => exact (Reps.one (show Kd.M (Kd.int .i64) _ _ _ 0 [.int .i64 0] from rfl) (Reps.one (show Kd.M (Kd.int .i64) _ _ _ 0 [.int .i64 0] from rfl) (Reps.one (show Kd.M (Kd.int .i64) _ _ _ 1 [.int .i64 1] from rfl) (Reps.one (show Kd.M (Kd.int .i64) _ _ _ 2 [.int .i64 2] from rfl) (Reps.one (show Kd.M (Kd.int .i64) _ _ _ 7 [.int .i64 7] from rfl) (Reps.one (show Kd.M (Kd.int .i64) _ _ _ 1000000 [.int .i64 1000000] from rfl) (Reps.none _ _))))))))
        intro v285 w38 ho39 hb hg_ hnew_
        clear hg_ hnew_
        (first | rw [← Ny284.out] at ho39 | (simp only [Int.reduceToNat] at ho39; rw [← Ny284.out] at ho39))
        have n_ := az (Kd.R_elder' (mR HO_272000.out) (by first | exact Kd.R_base ho39 | exact Kd.R_base ho39) hb) <| az (Kd.R_elder' (mR HO_272001.out) (by first | exact Kd.R_base ho39 | exact Kd.R_base ho39) hb) <| az (Kd.R_elder' (mR HO_272002.out) (by first | exact Kd.R_base ho39 | exact Kd.R_base ho39) hb) <| az (Kd.R_elder' (mR HO274.out) (by first | exact Kd.R_base ho39 | exact Kd.R_base ho39) hb) <| az (Kd.R_elder' (mR HO280.out) (by first | exact Kd.R_base ho39 | exact Kd.R_base ho39) hb) <| And.intro (z0 (Kd.R_lower (Kd.R_new' (Kd.R_new' (Kd.R_new' (Kd.R_new' (Kd.R_new' ho39 (Kd.R_lt (mR HO_272000.out))) (Kd.R_lt (mR HO_272001.out))) (Kd.R_lt (mR HO_272002.out))) (Kd.R_lt (mR HO274.out))) (Kd.R_lt (mR HO280.out))) (kS HK.out))) <| az (bB BK261.out hb) <| az (bB BK271.out hb) <| az (IsS93.below (mI93_1 HI0.out) hb) <| az (KeepBut.trans (mKp HK.out) (KeepBut.of_below hb g none) (.inl rfl)) <| z0 (below_step (mB93HI0 HB.out) hb)
        clear HO_272000 HO_272001 HO_272002 HO274 HO280 BK261 BK271 HI0 HK HB
        obtain ⟨HO_272000, HO_272001, HO_272002, HO274, HO280, HO286, BK261, BK271, HI0, HK, HB⟩ := n_
        clear hb ho39
        obtain ⟨Ao40, co40, eo40⟩ := Kd.R_slice HO286.out
        (first | subst eo40 | (injection eo40 with f1_ f2_ f3_; have f4_ := f1_.symm; have f5_ := f3_.symm; clear f1_ f2_ f3_; subst f4_; subst f5_))
        refine hK.out _ _ q63_1 (fun hHeld => ?_)
        clear hK K
        refine norm_ (a' := ?_) ?_ ?_
        rotate_left
        ·show Act.put _ (some 28) _ = _
         simp only [Act.put, List.setIfInBounds_toArray, List.set_cons_zero, List.set_cons_succ, i64_w, i32_w]
         rfl
        refine one_ (i := 5) (N := some 29) #[true, true, true, true, true, true, false, false] rfl rfl (one_of HT_.out (by kernel_rfl)) (by decide) (fun K hK => ?_)
        refine goes_ Tryz.func51 (by kernel_rfl) rfl #[.pointer (some ⟨g, 0, none⟩), .slice Ao40 y284.length co40] (by rfl) rfl rfl argx ?_
        with_reducible refine (spec_l12Rd_num.calls k1 g s0_0 t282 _ _ y284 t287 t288 w0 _ ?side1 ?side2 ?side3 ?side4 ?side5 A20.out).mono ?_
        (case side1 => exact mI93_1 HI0.out)
        (case side2 => exact mB93HI0 HB.out)
        (case side3 => exact mC (Kd.R_reads' HO286.out).2.2)
        (case side4 => exact (Kd.R_reads' HO286.out).2.1)
        (case side5 => exact far_slice (IsS93.own_ne HI0.out HO286.out (by decide)))
        rintro e w41 ⟨rfl, hi, hb, hk⟩
        refine ⟨_, rfl, ?_⟩
        have n_ := And.intro (z0 (Kd.R_mono (Kd.R_keep (IsS93.apart (show IsS93 w0 _ g s0_0 t282 from mI93_1 HI0.out) (mR HO_272000.out) (by decide)) hk (fun _ h => h.2)) (fun _ h => h.1))) <| And.intro (z0 (Kd.R_mono (Kd.R_keep (IsS93.apart (show IsS93 w0 _ g s0_0 t282 from mI93_1 HI0.out) (mR HO_272001.out) (by decide)) hk (fun _ h => h.2)) (fun _ h => h.1))) <| And.intro (z0 (Kd.R_mono (Kd.R_keep (IsS93.apart (show IsS93 w0 _ g s0_0 t282 from mI93_1 HI0.out) (mR HO_272002.out) (by decide)) hk (fun _ h => h.2)) (fun _ h => h.1))) <| az (kB hk BK261.out NB261_0.out) <| az (kB hk BK271.out NB271_0.out) <| And.intro (z0 (Kd.R_mono (Kd.R_keep (IsS93.apart (show IsS93 w0 _ g s0_0 t282 from mI93_1 HI0.out) (mR HO274.out) (by decide)) hk (fun _ h => h.2)) (fun _ h => h.1))) <| And.intro (z0 (Kd.R_mono (Kd.R_keep (IsS93.apart (show IsS93 w0 _ g s0_0 t282 from mI93_1 HI0.out) (mR HO280.out) (by decide)) hk (fun _ h => h.2)) (fun _ h => h.1))) <| And.intro (z0 (Kd.R_mono (Kd.R_keep (IsS93.apart (show IsS93 w0 _ g s0_0 t282 from mI93_1 HI0.out) (mR HO286.out) (by decide)) hk (fun _ h => h.2)) (fun _ h => h.1))) <| az (KeepBut.trans (mKp HK.out) hk (.inl rfl)) <| az (hb) <| z0 (hi)
        clear HO_272000 HO_272001 HO_272002 BK261 BK271 HO274 HO280 HO286 HK HB HI0
        obtain ⟨HO_272000, HO_272001, HO_272002, BK261, BK271, HO274, HO280, HO286, HK, HB, HI0⟩ := n_
        (try clear hb)
        (try clear hb2)
        (try clear hk)
        (try clear hi)
        have p22 : 0 ≤ (x4_1 : Int) := of_decide_eq_true (by first | (with_reducible assumption) | assumption)
        have q22 : (x4_1 : Int) < ((x272002_1.length : Int) : Int) := of_decide_eq_true (by first | (with_reducible assumption) | assumption)
        obtain ⟨go22, co22, eo22, gb22, gl22, cl22, HG22⟩ := Kd.R_form HO_272002.out (by omega)
        (first | cases eo22 | (injection eo22 with ea_ en_ ec_; (first | subst ea_ | (injection ea_ with ea_; subst ea_)); subst ec_; clear en_))
        have GB22 := z0 gb22
        have GG22 := z0 HG22
        clear gb22 gl22 HG22
        obtain ⟨hx22_0, hf22_0⟩ := Kd.R_celln 0 HO_272002.out (x4_1 : Int) p22 q22
        replace p22 := eq_true p22
        replace q22 := eq_true q22
        have HN0_go22 := z0 (show g ≠ go22 from by have h_ := IsS93.own_ne HI0.out HO_272002.out (by decide); intro e_; exact h_ (by rw [e_]; rfl))
        have HP42 := Kd.R_putn HO_272002.out (x4_1 : Int) t287
        rw [← Ny289.out] at HP42
        have HQ42 := z0 HP42
        clear HP42
        refine hK.out _ _ q63_1 (fun hHeld => ?_)
        clear hK K
        refine norm_ (a' := ?_) ?_ ?_
        rotate_left
        ·show Act.put _ (some 29) _ = _
         simp only [Act.put, List.setIfInBounds_toArray, List.set_cons_zero, List.set_cons_succ, i64_w, i32_w]
         rfl
        refine pure_ (i := 6) (N := some 30) (v := ?_) (a' := ?_) #[true, true, true, true, true, true, true, false] rfl rfl (any_of HT_.out (by kernel_rfl)) (fun _ _ _ h => h) (Or.inl ⟨by rfl, ?_⟩) ?_ ?_
        rotate_left
        ·intro w'
         go_simp
         with_reducible rfl
        rotate_left
        ·simp only [Act.put, List.setIfInBounds_toArray, List.set_cons_zero, List.set_cons_succ, i64_w, i32_w]
         rfl
        refine last_ (i := 7) (N := none) #[true, true, true, true, true, true, true, true] rfl rfl (one_of HT_.out (by kernel_rfl)) (by decide) (fun K hK => ?_)
        refine skip_ (w1 := ?_) (by rfl) rfl ?_ ?_
        rotate_left
        ·go_simp
         rfl
        refine hK.out _ _ ?_
        clear hK K
        refine done_ (done_of HT_.out (by kernel_rfl)) ?_
        try go_wp2
        go_roundg k1
        case measure => have := HK1.out; omega
        case rel => exact ⟨(wrap64 (x4_1 + 1)), (t288), (y277), (y283), (y289), (.slice (some ⟨go16, 0, none⟩) x272000_1.length co16), (.slice (some ⟨go19, 0, none⟩) x272001_1.length co19), (.slice (some ⟨go22, 0, none⟩) x272002_1.length co22), rfy, H', ⟨by have := HK1.out; omega⟩, ⟨by (with_reducible repeat (first | apply Kd.R_alloc | apply Kd.R_drewN | apply Kd.R_drew)); exact Kd.R_mono (Kd.R_far (p := ⟨go22, (x4_1 : Int).toNat, none⟩) (Kd.R_mono HO_272000.out (fun k_ hk => (⟨hk, fun e_ => hk.1.2.1 (by rw [e_]; rfl)⟩ : _ ∧ k_ ≠ go22))) (fun _ hk => hk.2) (.int .i64 t287)) (fun _ hk => ⟨hk.1.1.1, hk.1.1.2.1⟩)⟩, ⟨by (with_reducible repeat (first | apply Kd.R_alloc | apply Kd.R_drewN | apply Kd.R_drew)); exact Kd.R_mono (Kd.R_far (p := ⟨go22, (x4_1 : Int).toNat, none⟩) (Kd.R_mono HO_272001.out (fun k_ hk => (⟨hk, fun e_ => hk.1.2.1 (by rw [e_]; rfl)⟩ : _ ∧ k_ ≠ go22))) (fun _ hk => hk.2) (.int .i64 t287)) (fun _ hk => ⟨hk.1.1.1, hk.1.1.2.1⟩)⟩, ⟨by (with_reducible repeat (first | apply Kd.R_alloc | apply Kd.R_drewN | apply Kd.R_drew)); exact Kd.R_mono HQ42.out (fun _ hk => ⟨hk.1.1, hk.1.2.1⟩)⟩, ⟨by (with_reducible repeat (first | refine blk_drewN ?_ _ | refine blk_drew ?_ | refine blk_alloc ?_ _)); refine blk_far ?_ (by have h_ := Kd.R_ne HO_272002.out BK261.out (by decide); intro e_; exact h_ (by rw [e_]; rfl)) _; (with_reducible repeat (first | refine blk_drewN ?_ _ | refine blk_drew ?_ | refine blk_alloc ?_ _)); exact BK261.out⟩, ⟨by (with_reducible repeat (first | refine blk_drewN ?_ _ | refine blk_drew ?_ | refine blk_alloc ?_ _)); refine blk_far ?_ (by have h_ := Kd.R_ne HO_272002.out BK271.out (by decide); intro e_; exact h_ (by rw [e_]; rfl)) _; (with_reducible repeat (first | refine blk_drewN ?_ _ | refine blk_drew ?_ | refine blk_alloc ?_ _)); exact BK271.out⟩, ⟨mI93_1 HI0.out⟩, ⟨mKp HK.out⟩, ⟨by repeat (first | (with_reducible first | exact HB.out | apply below_alloc | apply pw_below_drewN | apply below_drew1 | refine below_set ?_ (Nat.le_trans HL.out GB22.out) | refine below_set ?_ (IsS93.ge HI0.out) | refine below_set ?_ GE261.out | refine below_set ?_ GE271.out) | exact HB.out)⟩⟩
       ·rw [if_neg c21] at H
        exact absurd H (by simp)
      ·rw [if_neg c18] at H
       exact absurd H (by simp)
     ·rw [if_neg c15] at H
      exact absurd H (by simp)
    ·rw [if_neg c14] at H
     exact absurd H (by simp)
   ·rw [if_neg c12] at H
    have c12b0 : decide (x4_1 < 4) = false := decide_eq_false c12
    clear c12
    simp only [Option.some.injEq, Prod.mk.injEq] at H
    obtain ⟨rfl, rfl, rfl, rfl⟩ := H
    have hnb43 := NB271_261.out
    have hnc43 := NB261_271.out
    have hnb44 := NB271_0.out
    have hnc44 := NB0_271.out
    obtain ⟨hcz45_0, hcz45_1, hcz45_2, hfz45_0, hfz45_1, hfz45_2⟩ := cel3 BK271.out
    obtain ⟨Ao46, co46, eo46⟩ := Kd.R_slice HO_272000.out
    subst eo46
    have hnb47 := NB261_0.out
    have hnc47 := NB0_261.out
    obtain ⟨hcz48_0, hcz48_1, hcz48_2, hfz48_0, hfz48_1, hfz48_2⟩ := cel3 BK261.out
    obtain ⟨Ao49, co49, eo49⟩ := Kd.R_slice HO_272001.out
    subst eo49
    obtain ⟨Ao50, co50, eo50⟩ := Kd.R_slice HO_272002.out
    subst eo50
    go_wp2
    refine bodyPost_ret (results_cell_row rfl _ _ gb261 30 #[.slice Ao46 x272000_1.length co46, .slice Ao49 x272001_1.length co49, .slice Ao50 x272002_1.length co50] (0, 0) _ rfl (pF BK261.out) Tryz.underlying30 rfl (by kernel_rfl)) rfl ?_
    exact ⟨_, _, _, rfx, by (with_reducible repeat (first | apply Kd.R_alloc | apply Kd.R_drewN | apply Kd.R_drew)); exact Kd.R_mono (Kd.R_far (p := ⟨gb261, 2, none⟩) (Kd.R_far (p := ⟨gb261, 1, none⟩) (Kd.R_far (p := ⟨gb261, 0, none⟩) (Kd.R_types HO_272000.out BK261.out (by decide)) (fun _ hk => hk.2) (.slice Ao46 x272000_1.length co46)) (fun _ hk => hk.2) (.slice Ao49 x272001_1.length co49)) (fun _ hk => hk.2) (.slice Ao50 x272002_1.length co50)) (fun _ hk => ⟨hk.1.1, hk.1.2⟩), by (with_reducible repeat (first | apply Kd.R_alloc | apply Kd.R_drewN | apply Kd.R_drew)); exact Kd.R_mono (Kd.R_far (p := ⟨gb261, 2, none⟩) (Kd.R_far (p := ⟨gb261, 1, none⟩) (Kd.R_far (p := ⟨gb261, 0, none⟩) (Kd.R_types HO_272001.out BK261.out (by decide)) (fun _ hk => hk.2) (.slice Ao46 x272000_1.length co46)) (fun _ hk => hk.2) (.slice Ao49 x272001_1.length co49)) (fun _ hk => hk.2) (.slice Ao50 x272002_1.length co50)) (fun _ hk => ⟨hk.1.1, hk.1.2⟩), by (with_reducible repeat (first | apply Kd.R_alloc | apply Kd.R_drewN | apply Kd.R_drew)); exact Kd.R_mono (Kd.R_far (p := ⟨gb261, 2, none⟩) (Kd.R_far (p := ⟨gb261, 1, none⟩) (Kd.R_far (p := ⟨gb261, 0, none⟩) (Kd.R_types HO_272002.out BK261.out (by decide)) (fun _ hk => hk.2) (.slice Ao46 x272000_1.length co46)) (fun _ hk => hk.2) (.slice Ao49 x272001_1.length co49)) (fun _ hk => hk.2) (.slice Ao50 x272002_1.length co50)) (fun _ hk => ⟨hk.1.1, hk.1.2⟩), mI93_1 HI0.out, mB93HI0 HB.out, mKp HK.out⟩

end Go.Proofs.YtendbgedpjcocaaGreatDoor.B
