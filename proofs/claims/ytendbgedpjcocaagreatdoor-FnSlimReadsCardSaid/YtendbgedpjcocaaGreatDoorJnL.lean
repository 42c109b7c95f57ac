import Derived.Test.YtendbgedpjcocaaGreatDoorDrwCount
import Derived.Test.YtendbgedpjcocaaGreatDoorJnJ
import Derived.Test.YtendbgedpjcocaaGreatDoorJnK
/- spec.l4List, by its size. -/
namespace Go.Proofs.YtendbgedpjcocaaGreatDoor.B
open Go Go.RowKit Go.Shelf Go.Proofs.YtendbgedpjcocaaGreatDoorW.PrintWords Go.Proofs.YtendbgedpjcocaaGreatDoorW.PrintLast Go.Proofs.YtendbgedpjcocaaGreatDoorW.PrintMore
set_option linter.unusedVariables false
def cnN : Nat → Nat
 | 0 => 0
 | d + 1 => 3 * (3 + 2 * cnN d)
def lbN : Nat → Nat
 | 0 => 10
 | d + 1 => 10 + 3 * (1000000 + 2 * lbN d)
theorem cnN_le (d : Nat) (h : d ≤ 3) : cnN d ≤ 400 := by
 have : d = 0 ∨ d = 1 ∨ d = 2 ∨ d = 3 := by omega
 rcases this with rfl | rfl | rfl | rfl <;> decide
/-- A drawn list: its value, its size. -/
abbrev LD (w w' : World) (n : Nat) (e : Ending) (P : Prop) : Prop := ∃ (l : List St) (A : Option Addr) (c : Nat), e = .returned (.slice A l.length c) ∧ Fit n l ∧ Kd.N stK 35 w' w.heap.size (Fr w) (.slice A l.length c) l ∧ P
def ListDr (d : Nat) : Prop := ∀ (a : Int), a ≤ d → -10 ≤ a → ∀ (w0 w : World) (g : Nat) (s : List Int) (N : Nat), At w0 w g s (N + lbN d) w → Calls Tryz.prog 101 #[.pointer (some ⟨g, 0, none⟩), .int .i64 a] w fun e w' => LD w w' (cnN d) e (At w0 w g s N w')
theorem count_fr {w0 wb W : World} {g N : Nat} {s : List Int} (h : At w0 wb g s (N + 200000) W) : Calls Tryz.prog 102 #[.pointer (some ⟨g, 0, none⟩)] W fun e w' => ∃ (x : St) (B : Option Addr) (d : Nat) (A3 : Option Addr) (c3 : Nat), e = .returned (.agg (stC x.f0 x.f1.f0 x.f1.f1 x.f2 B d x.f3.length A3 c3 0 none 0)) ∧ x.f4 = [] ∧ TinyS x ∧ cntS x ≤ 3 ∧ TVo w' (Fr W) x.f2 B d ∧ LVo w' (Fr W) x.f3 A3 c3 ∧ At w0 wb g s N w' ∧ KeepBut W w' g none :=
 (count_dr h.here).mono fun e w' ⟨x, B, d, A3, c3, h1, h2, h3, h4, h5, h6, h7⟩ => ⟨x, B, d, A3, c3, h1, h2, h3, h4, h5, h6, h7.over h, h7.k⟩
theorem ListDr.fr {d : Nat} (hd : ListDr d) {a : Int} (h1 : a ≤ d) (h2 : -10 ≤ a) {w0 wb W : World} {g N : Nat} {s : List Int} (h : At w0 wb g s (N + lbN d) W) : Calls Tryz.prog 101 #[.pointer (some ⟨g, 0, none⟩), .int .i64 a] W fun e w' => ∃ (l : List St) (A : Option Addr) (c : Nat), e = .returned (.slice A l.length c) ∧ Fit (cnN d) l ∧ LVo w' (Fr W) l A c ∧ At w0 wb g s N w' ∧ KeepBut W w' g none :=
 (hd a h1 h2 w0 W g s N h.here).mono fun e w' ⟨l, A, c, h1, h2, h3, h7⟩ => ⟨l, A, c, h1, h2, ⟨Kd.N_V h3⟩, h7.over h, h7.k⟩
set_option maxRecDepth 100000 in
set_option maxHeartbeats 4000000 in
theorem list_core (a : Int) (ha0 : -10 ≤ a) (ha3 : a ≤ 3) (K C L : Nat) (hC : C ≤ 803) (ih : 0 < a → ∃ d : Nat, a ≤ d + 1 ∧ ListDr d ∧ L = lbN d ∧ 1000000 + 2 * lbN d ≤ K ∧ 3 + 2 * cnN d ≤ C ∧ cnN d ≤ 400) (w0 w : World) (g : Nat) (s : List Int) (N : Nat) (h : At w0 w g s (N + 10 + 3 * K) w) :
  Calls Tryz.prog 101 #[.pointer (some ⟨g, 0, none⟩), .int .i64 a] w fun e w' => LD w w' (3 * C) e (At w0 w g s N w') := by
 have fr := h.fresh
 have H0 := Aside0.mk h
 have HI := Aside0.mk ih
 clear h ih
 go_enter Tryz.func101, Tryz.ntmps101
 go_wp2_with ((with_reducible refine gate_dst (N := 7) rfl ?_); refine Kd.N_lit stK w.heap.size 35 rfl (N' := 7) rfl (xs := []) (inner := []) (ok := Fr w) (okp := Fr w) (by go_simp; try rfl) (Reps.none _ _) (fun _ hk => hk) (Nat.le_refl _) (Below.refl _ _) (Nat.le_refl _) (by simp) ?_; intro v7 w1 ho hb1 hg_ hn_; clear hg_ hn_; obtain ⟨A0, c0, e0⟩ := Kd.N_slice ho; subst e0)
 have H1 := Aside0.mk (show At w0 w g s (N + 3 * K + 1) w1 ∧ Kd.N stK 35 w1 w.heap.size (Fr w) (.slice A0 0 c0) [] from ⟨At.less (At.below H0.out hb1) (by omega), ho⟩)
 clear H0 ho hb1
 refine (pick_dr H1.out.1 4 (by omega) (by omega)).mono ?_
 rintro e w2 ⟨r, rfl, r0, r1, hA, hk⟩
 have H2 := Aside0.mk (show At w0 w g s (N + 3 * K) w2 ∧ Kd.N stK 35 w2 w.heap.size (Fr w) (.slice A0 0 c0) [] from ⟨hA, Kd.N_keep H1.out.2 hk fr⟩)
 clear H1 hA hk
 go_wp2
 go_loopw [5, 6] (fun v5 v6 wr => ∃ (x6 : Int) (l : List St) (A : Option Addr) (c : Nat), v5 = .slice A l.length c ∧ v6 = .int .i64 x6 ∧ Aside0 (∃ n m : Nat, x6 = n ∧ n ≤ 3 ∧ Fit m l ∧ m + n * C ≤ 3 * C ∧ At w0 w g s (N + n * K) wr) ∧ Aside0 (Kd.N stK 35 wr w.heap.size (Fr w) (.slice A l.length c) l)) (fun _ v6 _ => (intOf v6).toNat)
 case atStart =>
  obtain ⟨n, rfl⟩ := Int.eq_ofNat_of_zero_le r0
  exact ⟨_, [], A0, c0, rfl, rfl, ⟨n, 0, rfl, by omega, Fit.nil 0, by have := Nat.mul_le_mul_right C (show n ≤ 3 by omega); omega, At.less H2.out.1 (by have := Nat.mul_le_mul_right K (show n ≤ 3 by omega); omega)⟩, ⟨H2.out.2⟩⟩
 case round =>
  clear H2
  obtain ⟨x6, l, A, c, rfl, rfl, HR, HO⟩ := hrel
  by_cases hb : 0 < x6 ∧ 0 < a
  rotate_left
  ·have hend : LD w wr (3 * C) (.returned (.slice A l.length c)) (At w0 w g s N wr) := by
    obtain ⟨n, m, hn, hn3, hF, hm, hA⟩ := HR.out
    exact ⟨l, A, c, rfl, hF.mono (by omega), HO.out, hA.less (by omega)⟩
   have HEND := Aside0.mk hend
   clear hend HR HO
   by_cases hx : 0 < x6
   ·have bn : decide (0 < x6) = true := decide_eq_true hx
    have ba : decide (0 < a) = false := decide_eq_false fun h => hb ⟨hx, h⟩
    clear hb hx
    go_wp2
    go_ret
    exact HEND.out
   ·have bn : decide (0 < x6) = false := decide_eq_false hx
    clear hb hx
    go_wp2
    go_ret
    exact HEND.out
  have bn : decide (0 < x6) = true := decide_eq_true hb.1
  have ba : decide (0 < a) = true := decide_eq_true hb.2
  obtain ⟨dd, hd1, hLD, rfl, hK, hC', hcn⟩ := HI.out hb.2
  obtain ⟨n', m, hn, hn3, hF, hm, hA⟩ := HR.out
  obtain ⟨n, rfl⟩ : ∃ n, n' = n + 1 := ⟨n' - 1, by omega⟩
  rw [Nat.succ_mul] at hm hA
  have hlt := Kd.N_lt HO.out
  have hlen := hF.len
  have hws := hA.k.1
  have ha1 : 1 ≤ a := hb.2
  have hw1 : wrap64 (a - 1) = a - 1 := by unfold wrap64; omega
  have hw2 : wrap64 (a - 2) = a - 2 := by unfold wrap64; omega
  have hw6 : wrap64 (x6 - 1) = (n : Int) := by unfold wrap64; omega
  have HF := Aside0.mk (show Fit m l ∧ m + C + n * C ≤ 3 * C ∧ x6 = n + 1 ∧ n ≤ 2 ∧ l.length ≤ 2500 from ⟨hF, by omega, by omega, by omega, by omega⟩)
  have HLD := Aside0.mk hLD
  have rel : ∀ (x : St) (W : World) (A1 : Option Addr) (c1 : Nat), TinyS x → cntS x ≤ C → Kd.N stK 35 W w.heap.size (Fr w) (.slice A1 (l.length + 1) c1) (l ++ [x]) → At w0 w g s (N + n * K) W → ∃ (x6 : Int) (l' : List St) (A : Option Addr) (c : Nat), Value.slice A1 (l.length + 1) c1 = .slice A l'.length c ∧ Value.int .i64 (n : Int) = .int .i64 x6 ∧ Aside0 (∃ n m : Nat, x6 = n ∧ n ≤ 3 ∧ Fit m l' ∧ m + n * C ≤ 3 * C ∧ At w0 w g s (N + n * K) W) ∧ Aside0 (Kd.N stK 35 W w.heap.size (Fr w) (.slice A l'.length c) l') := by
   intro x W A1 c1 hx hc hN hA
   exact ⟨n, l ++ [x], A1, c1, congrArg (fun k => Value.slice A1 k c1) (by simp), rfl, ⟨n, m + C, rfl, by omega, hF.snoc hx hc, by omega, hA⟩, ⟨by simpa using hN⟩⟩
  have REL := Aside0.mk rel
  have rel0 : ∀ W : World, Kd.N stK 35 W w.heap.size (Fr w) (.slice A l.length c) l → At w0 w g s (N + n * K) W → ∃ (x6 : Int) (l' : List St) (A' : Option Addr) (c' : Nat), Value.slice A l.length c = .slice A' l'.length c' ∧ Value.int .i64 (n : Int) = .int .i64 x6 ∧ Aside0 (∃ n m : Nat, x6 = n ∧ n ≤ 3 ∧ Fit m l' ∧ m + n * C ≤ 3 * C ∧ At w0 w g s (N + n * K) W) ∧ Aside0 (Kd.N stK 35 W w.heap.size (Fr w) (.slice A' l'.length c') l') := fun W hN hA => ⟨n, l, A, c, rfl, rfl, ⟨n, m, rfl, by omega, hF, by omega, hA⟩, ⟨hN⟩⟩
  have REL0 := Aside0.mk rel0
  have H9 := Aside0.mk (show At w0 w g s (N + n * K + 900000 + 2 * lbN dd + 1) wr ∧ Kd.N stK 35 wr w.heap.size (Fr w) (.slice A l.length c) l from ⟨hA.less (by omega), HO.out⟩)
  clear hF hm hA hb HR HO hlen hLD hn hn3 hK rel rel0
  go_wp2_with fail
  refine (pick_dr H9.out.1 7 (by omega) (by omega)).mono ?_
  rintro e w3 ⟨r, rfl, r0, r1, hA, hk⟩
  have hk3 := hk.1
  have H10 := Aside0.mk (show At w0 w g s (N + n * K + 900000 + 2 * lbN dd) w3 ∧ Kd.N stK 35 w3 w.heap.size (Fr w) (.slice A l.length c) l from ⟨hA, Kd.N_keep H9.out.2 hk fr⟩)
  clear H9 hA hk
  have hk33 : wr.heap.size ≤ w3.heap.size := hk3
  by_cases h01 : r = 0 ∨ r = 1
  ·have h02 : (r == 0) = true ∨ ((r == 0) = false ∧ (r == 1) = true) := by rcases h01 with h | h <;> simp [h]
   clear h01
   rcases h02 with c0 | ⟨c0, c1⟩
   all_goals
    go_wp2_with fail
    refine (expr_dr 3 (by omega) (At.less (N := N + n * K + 900000 + 2 * lbN dd) (M := N + n * K + 800000 + 2 * lbN dd + 100000) H10.out.1 (by omega))).mono ?_
    rintro e w4 ⟨x, B, e, rfl, hx, hT, hA, hk⟩
    have hk4 := hk.1
    have H11 := Aside0.mk (show At w0 w g s (N + n * K + 800000 + 2 * lbN dd) w4 ∧ TVo w4 (Fr wr) x B e ∧ Kd.N stK 35 w4 w.heap.size (Fr w) (.slice A l.length c) l from ⟨hA, hT.mono fun k hk => Nat.le_trans hk33 hk, Kd.N_keep H10.out.2 hk fr⟩)
    clear H10 hA hk
    have HX := Aside0.mk hx
    clear hx
    go_wp2_with fail
    refine (HLD.out.fr (a := a - 1) (by omega) (by omega) (At.less (M := N + n * K + 800000 + lbN dd + lbN dd) H11.out.1 (by omega))).mono ?_
    rintro e w5 ⟨l1, A1, c1, rfl, hF1, hL1, hA, hk⟩
    have hk5 := hk.1
    have H12 := Aside0.mk (show At w0 w g s (N + n * K + 800000 + lbN dd) w5 ∧ LVo w5 (Fr wr) l1 A1 c1 ∧ TVo w5 (Fr wr) x B e ∧ Kd.N stK 35 w5 w.heap.size (Fr w) (.slice A l.length c) l from ⟨hA, hL1.mono fun k hk => Nat.le_trans hk33 (Nat.le_trans hk4 hk), TVo.keep H11.out.2.1 hk fun k hk => fr k (Nat.le_trans hws hk), Kd.N_keep H11.out.2.2 hk fr⟩)
    clear H11 hA hk
    go_wp2_with fail
    refine (HLD.out.fr (a := a - 2) (by omega) (by omega) (At.less (M := N + n * K + 800000 + lbN dd) H12.out.1 (by omega))).mono ?_
    rintro e w6 ⟨l2, A2, c2, rfl, hF2, hL2, hA, hk⟩
    have hk6 := hk.1
    have H13 := Aside0.mk (show At w0 w g s (N + n * K + 800000) w6 ∧ LVo w6 (Fr wr) l2 A2 c2 ∧ LVo w6 (Fr wr) l1 A1 c1 ∧ TVo w6 (Fr wr) x B e ∧ Kd.N stK 35 w6 w.heap.size (Fr w) (.slice A l.length c) l from ⟨hA, hL2.mono fun k hk => Nat.le_trans hk33 (Nat.le_trans hk4 (Nat.le_trans hk5 hk)), LVo.keep H12.out.2.1 hk fun k hk => fr k (Nat.le_trans hws hk), TVo.keep H12.out.2.2.1 hk fun k hk => fr k (Nat.le_trans hws hk), Kd.N_keep H12.out.2.2.2 hk fr⟩)
    clear H12 hA hk
    have HFF := Aside0.mk (And.intro hF1 hF2)
    clear hF1 hF2
    go_wp2_with ((with_reducible refine gate_builtin (b := .append) (xs := #[.tmp 31, .tmp 43]) rfl ?_); at_builtin; refine Kd.N_append k35 w.heap.size rfl (.tmp 31) (.tmp 43) 33 35 (.agg zS) 128 rfl Tryz.underlying33 info35 rfl (by decide) (by omega) (.slice A l.length c) (l) ((⟨2, ⟨0, 0⟩, x, l1, l2⟩ : St)) ([.int .i64 2, .int .i64 0, .int .i64 0, .int .i64 x.f0, .int .i64 x.f1, .int .i64 x.f2.f0, .int .i64 x.f2.f1, .slice B x.f3.length e, .slice A1 l1.length c1, .slice A2 l2.length c2]) (Fr w) (Fr wr) rfl rfl (stLitO_F 2 0 0 x B e l1 A1 c1 l2 A2 c2 _ _ (H13.out.2.2.2.1) (H13.out.2.2.1) (H13.out.2.1)) (fun k hk => ⟨Nat.le_trans hws hk, fun e => by have := hlt k e.symm; have : wr.heap.size ≤ k := hk; omega⟩) (fun k hk => by have := (H13.out.1).k.1; show w.heap.size ≤ k; omega) (H13.out.2.2.2.2) (Below.refl _ _) (by have := (H13.out.1).k.1; omega) (by have := HF.out.2.2.2.2; omega) ?_; intro v1 W1 hN hb hg hat)
    go_roundw
    case measure => have := HF.out; simp [intOf]; omega
    case rel =>
     obtain ⟨A1, c1, rfl⟩ := Kd.N_slice hN
     rw [hw6]
     have e2 : (l ++ [(⟨2, ⟨0, 0⟩, x, l1, l2⟩ : St)]).length = l.length + 1 := by simp
     rw [e2] at hN ⊢
     exact REL.out ((⟨2, ⟨0, 0⟩, x, l1, l2⟩ : St)) _ A1 c1 (Fit.mk1 (k := 2) (a := ⟨0, 0⟩) HX.out HFF.out.1 HFF.out.2 (by omega) (by omega)).1 (by have := (Fit.mk1 (k := 2) (a := ⟨0, 0⟩) HX.out HFF.out.1 HFF.out.2 (by omega) (by omega)).2; omega) hN (At.less (At.low H13.out.1 hb) (by omega))
  have c0 : (r == 0) = false := by simp; omega
  have c1 : (r == 1) = false := by simp; omega
  by_cases h2 : r = 2
  ·have c2 : (r == 2) = true := by simp [h2]
   clear h01 h2
   by_cases h1 : 1 < a
   rotate_left
   ·have b1 : decide (1 < a) = false := decide_eq_false h1
    go_wp2
    go_roundw
    case measure => have := HF.out; simp [intOf]; omega
    case rel => rw [hw6]; exact REL0.out _ (H10.out.2) (At.less H10.out.1 (by omega))
   have b1 : decide (1 < a) = true := decide_eq_true h1
   go_wp2_with fail
   refine (count_fr (At.less (N := N + n * K + 900000 + 2 * lbN dd) (M := N + n * K + 200000 + 200000) H10.out.1 (by omega))).mono ?_
   rintro e w4 ⟨x, B, e, A1, c1, rfl, hx4, hxt, hxc, hT, hL1, hA, hk⟩
   have hk4 := hk.1
   have H11 := Aside0.mk (show At w0 w g s (N + n * K + 200000) w4 ∧ TVo w4 (Fr wr) x.f2 B e ∧ LVo w4 (Fr wr) x.f3 A1 c1 ∧ Kd.N stK 35 w4 w.heap.size (Fr w) (.slice A l.length c) l from ⟨hA, hT.mono fun k hk => Nat.le_trans hk33 hk, hL1.mono fun k hk => Nat.le_trans hk33 hk, Kd.N_keep H10.out.2 hk fr⟩)
   clear H10 hA hk
   obtain ⟨k0, ⟨k1, k2⟩, k3, k4, k5⟩ := x
   dsimp only at hx4
   subst hx4
   have HX := Aside0.mk (And.intro hxt hxc)
   clear hxt hxc
   go_wp2_with ((with_reducible refine gate_builtin (b := .append) (xs := #[.tmp 49, .tmp 52]) rfl ?_); at_builtin; refine Kd.N_append k35 w.heap.size rfl (.tmp 49) (.tmp 52) 33 35 (.agg zS) 128 rfl Tryz.underlying33 info35 rfl (by decide) (by omega) (.slice A l.length c) (l) ((⟨k0, ⟨k1, k2⟩, k3, k4, []⟩ : St)) ([.int .i64 k0, .int .i64 k1, .int .i64 k2, .int .i64 k3.f0, .int .i64 k3.f1, .int .i64 k3.f2.f0, .int .i64 k3.f2.f1, .slice B k3.f3.length e, .slice A1 k4.length c1, .slice none 0 0]) (Fr w) (Fr wr) rfl rfl (stLitO_F k0 k1 k2 k3 B e k4 A1 c1 [] none 0 _ _ (H11.out.2.1) (H11.out.2.2.1) (LVo.nil _ _)) (fun k hk => ⟨Nat.le_trans hws hk, fun e => by have := hlt k e.symm; have : wr.heap.size ≤ k := hk; omega⟩) (fun k hk => by have := (H11.out.1).k.1; show w.heap.size ≤ k; omega) (H11.out.2.2.2) (Below.refl _ _) (by have := (H11.out.1).k.1; omega) (by have := HF.out.2.2.2.2; omega) ?_; intro v1 W1 hN hb hg hat)
   go_roundw
   case measure => have := HF.out; simp [intOf]; omega
   case rel =>
    obtain ⟨A1, c1, rfl⟩ := Kd.N_slice hN
    rw [hw6]
    have e2 : (l ++ [(⟨k0, ⟨k1, k2⟩, k3, k4, []⟩ : St)]).length = l.length + 1 := by simp
    rw [e2] at hN ⊢
    exact REL.out ((⟨k0, ⟨k1, k2⟩, k3, k4, []⟩ : St)) _ A1 c1 HX.out.1 (by have := HX.out.2; omega) hN (At.less (At.low H11.out.1 hb) (by omega))
  have c2 : (r == 2) = false := by simp [h2]
  by_cases h3 : r = 3
  ·have c3 : (r == 3) = true := by simp [h3]
   clear h01 h2 h3
   go_wp2_with fail
   refine (pick_dr (At.less (N := N + n * K + 900000 + 2 * lbN dd) (M := N + n * K + 800000 + 2 * lbN dd + 1) H10.out.1 (by omega)) 3 (by omega) (by omega)).mono ?_
   rintro e w4 ⟨t, rfl, t0, t1, hA, hk⟩
   have hk4 := hk.1
   have H11 := Aside0.mk (show At w0 w g s (N + n * K + 800000 + 2 * lbN dd) w4 ∧ Kd.N stK 35 w4 w.heap.size (Fr w) (.slice A l.length c) l from ⟨hA, Kd.N_keep H10.out.2 hk fr⟩)
   clear H10 hA hk
   by_cases ht : t = 0
   rotate_left
   ·have ct : (t == 0) = false := by simp [ht]
    go_wp2
    go_roundw
    case measure => have := HF.out; simp [intOf]; omega
    case rel => rw [hw6]; exact REL0.out _ (H11.out.2) (At.less H11.out.1 (by omega))
   have ct : (t == 0) = true := by simp [ht]
   clear ht
   go_wp2_with fail
   refine (expr_dr 2 (by omega) (At.less (N := N + n * K + 800000 + 2 * lbN dd) (M := N + n * K + 600000 + 2 * lbN dd + 100000) H11.out.1 (by omega))).mono ?_
   rintro e w5 ⟨x, B, e, rfl, hx, hT, hA, hk⟩
   have hk5 := hk.1
   have H12 := Aside0.mk (show At w0 w g s (N + n * K + 600000 + 2 * lbN dd) w5 ∧ TVo w5 (Fr wr) x B e ∧ Kd.N stK 35 w5 w.heap.size (Fr w) (.slice A l.length c) l from ⟨hA, hT.mono fun k hk => Nat.le_trans hk33 (Nat.le_trans hk4 hk), Kd.N_keep H11.out.2 hk fr⟩)
   clear H11 hA hk
   have HX := Aside0.mk hx
   clear hx
   go_wp2_with fail
   refine (HLD.out.fr (a := a - 1) (by omega) (by omega) (At.less (M := N + n * K + 600000 + lbN dd + lbN dd) H12.out.1 (by omega))).mono ?_
   rintro e w6 ⟨l1, A1, c1, rfl, hF1, hL1, hA, hk⟩
   have hk6 := hk.1
   have H13 := Aside0.mk (show At w0 w g s (N + n * K + 600000 + lbN dd) w6 ∧ LVo w6 (Fr wr) l1 A1 c1 ∧ TVo w6 (Fr wr) x B e ∧ Kd.N stK 35 w6 w.heap.size (Fr w) (.slice A l.length c) l from ⟨hA, hL1.mono fun k hk => Nat.le_trans hk33 (Nat.le_trans hk4 (Nat.le_trans hk5 hk)), TVo.keep H12.out.2.1 hk fun k hk => fr k (Nat.le_trans hws hk), Kd.N_keep H12.out.2.2 hk fr⟩)
   clear H12 hA hk
   have HFF := Aside0.mk hF1
   clear hF1
   go_wp2_with ((with_reducible refine gate_builtin (b := .append) (xs := #[.tmp 59, .tmp 67]) rfl ?_); at_builtin; refine Kd.N_append k35 w.heap.size rfl (.tmp 59) (.tmp 67) 33 35 (.agg zS) 128 rfl Tryz.underlying33 info35 rfl (by decide) (by omega) (.slice A l.length c) (l) ((⟨3, ⟨0, 0⟩, x, l1, []⟩ : St)) ([.int .i64 3, .int .i64 0, .int .i64 0, .int .i64 x.f0, .int .i64 x.f1, .int .i64 x.f2.f0, .int .i64 x.f2.f1, .slice B x.f3.length e, .slice A1 l1.length c1, .slice none 0 0]) (Fr w) (Fr wr) rfl rfl (stLitO_F 3 0 0 x B e l1 A1 c1 [] none 0 _ _ (H13.out.2.2.1) (H13.out.2.1) (LVo.nil _ _)) (fun k hk => ⟨Nat.le_trans hws hk, fun e => by have := hlt k e.symm; have : wr.heap.size ≤ k := hk; omega⟩) (fun k hk => by have := (H13.out.1).k.1; show w.heap.size ≤ k; omega) (H13.out.2.2.2) (Below.refl _ _) (by have := (H13.out.1).k.1; omega) (by have := HF.out.2.2.2.2; omega) ?_; intro v1 W1 hN hb hg hat)
   go_roundw
   case measure => have := HF.out; simp [intOf]; omega
   case rel =>
    obtain ⟨A1, c1, rfl⟩ := Kd.N_slice hN
    rw [hw6]
    have e2 : (l ++ [(⟨3, ⟨0, 0⟩, x, l1, []⟩ : St)]).length = l.length + 1 := by simp
    rw [e2] at hN ⊢
    exact REL.out ((⟨3, ⟨0, 0⟩, x, l1, []⟩ : St)) _ A1 c1 (Fit.mk1 (k := 3) (a := ⟨0, 0⟩) HX.out HFF.out (Fit.nil 0) (by omega) (by omega)).1 (by have := (Fit.mk1 (k := 3) (a := ⟨0, 0⟩) HX.out HFF.out (Fit.nil 0) (by omega) (by omega)).2; omega) hN (At.less (At.low H13.out.1 hb) (by omega))
  have c3 : (r == 3) = false := by simp [h3]
  clear h01 h2 h3
  go_wp2_with fail
  refine (to_dr (At.less (N := N + n * K + 900000 + 2 * lbN dd) (M := N + n * K + 800000 + 2) H10.out.1 (by omega))).mono ?_
  rintro e w4 ⟨y, z, rfl, hA, hk⟩
  have hk4 := hk.1
  have H11 := Aside0.mk (show At w0 w g s (N + n * K + 800000) w4 ∧ Kd.N stK 35 w4 w.heap.size (Fr w) (.slice A l.length c) l from ⟨hA, Kd.N_keep H10.out.2 hk fr⟩)
  clear H10 hA hk
  go_wp2_with fail
  refine (expr_dr 3 (by omega) (At.less (N := N + n * K + 800000) (M := N + n * K + 100000) H11.out.1 (by omega))).mono ?_
  rintro e w5 ⟨x, B, e, rfl, hx, hT, hA, hk⟩
  have hk5 := hk.1
  have H12 := Aside0.mk (show At w0 w g s (N + n * K) w5 ∧ TVo w5 (Fr wr) x B e ∧ Kd.N stK 35 w5 w.heap.size (Fr w) (.slice A l.length c) l from ⟨hA, hT.mono fun k hk => Nat.le_trans hk33 (Nat.le_trans hk4 hk), Kd.N_keep H11.out.2 hk fr⟩)
  clear H11 hA hk
  have HX := Aside0.mk hx
  clear hx
  go_wp2_with ((with_reducible refine gate_builtin (b := .append) (xs := #[.tmp 20, .tmp 26]) rfl ?_); at_builtin; refine Kd.N_append k35 w.heap.size rfl (.tmp 20) (.tmp 26) 33 35 (.agg zS) 128 rfl Tryz.underlying33 info35 rfl (by decide) (by omega) (.slice A l.length c) (l) ((⟨1, ⟨y, z⟩, x, [], []⟩ : St)) ([.int .i64 1, .int .i64 y, .int .i64 z, .int .i64 x.f0, .int .i64 x.f1, .int .i64 x.f2.f0, .int .i64 x.f2.f1, .slice B x.f3.length e, .slice none 0 0, .slice none 0 0]) (Fr w) (Fr wr) rfl rfl (stLitO_F 1 y z x B e [] none 0 [] none 0 _ _ (H12.out.2.1) (LVo.nil _ _) (LVo.nil _ _)) (fun k hk => ⟨Nat.le_trans hws hk, fun e => by have := hlt k e.symm; have : wr.heap.size ≤ k := hk; omega⟩) (fun k hk => by have := (H12.out.1).k.1; show w.heap.size ≤ k; omega) (H12.out.2.2) (Below.refl _ _) (by have := (H12.out.1).k.1; omega) (by have := HF.out.2.2.2.2; omega) ?_; intro v1 W1 hN hb hg hat)
  go_roundw
  case measure => have := HF.out; simp [intOf]; omega
  case rel =>
   obtain ⟨A1, c1, rfl⟩ := Kd.N_slice hN
   rw [hw6]
   have e2 : (l ++ [(⟨1, ⟨y, z⟩, x, [], []⟩ : St)]).length = l.length + 1 := by simp
   rw [e2] at hN ⊢
   exact REL.out ((⟨1, ⟨y, z⟩, x, [], []⟩ : St)) _ A1 c1 (Fit.mk1 (k := 1) (a := ⟨y, z⟩) HX.out (Fit.nil 0) (Fit.nil 0) (by omega) (by omega)).1 (by have := (Fit.mk1 (k := 1) (a := ⟨y, z⟩) HX.out (Fit.nil 0) (Fit.nil 0) (by omega) (by omega)).2; omega) hN (At.less (At.low H12.out.1 hb) (by omega))
theorem list_dr (d : Nat) : d ≤ 3 → ListDr d := by
 induction d with
 | zero =>
  intro _ a h1 h2 w0 w g s N h
  exact list_core a h2 (by omega) 0 0 0 (by omega) (fun h => by omega) w0 w g s N h
 | succ d ih =>
  intro h3 a h1 h2 w0 w g s N h
  have hc := cnN_le d (by omega)
  exact list_core a h2 (by omega) (1000000 + 2 * lbN d) (3 + 2 * cnN d) (lbN d) (by omega) (fun _ => ⟨d, by omega, ih (by omega), rfl, by omega, by omega, hc⟩) w0 w g s N (h.less (by rw [lbN]; omega))

end Go.Proofs.YtendbgedpjcocaaGreatDoor.B
/- spec.l4Some, spec.l4Bent, by their size. -/
namespace Go.Proofs.YtendbgedpjcocaaGreatDoor.B
open Go Go.RowKit Go.Shelf Go.Proofs.YtendbgedpjcocaaGreatDoorW.PrintWords Go.Proofs.YtendbgedpjcocaaGreatDoorW.PrintLast Go.Proofs.YtendbgedpjcocaaGreatDoorW.PrintMore
set_option linter.unusedVariables false
theorem lbN3 : lbN 3 ≤ 129100000 := by decide
theorem cnN3 : cnN 3 ≤ 400 := by decide
set_option maxRecDepth 100000 in
set_option maxHeartbeats 4000000 in
theorem some_dr {w0 w : World} {g N : Nat} {s : List Int} (h : At w0 w g s (N + 130000000) w) : Calls Tryz.prog 82 #[.pointer (some ⟨g, 0, none⟩)] w fun e w' => LD w w' 400 e (At w0 w g s N w') := by
 have fr := h.fresh
 have H0 := Aside0.mk h
 clear h
 go_enter Tryz.func82, Tryz.ntmps82
 go_wp2_with fail
 refine (list_dr 3 (by omega) 3 (by omega) (by omega) w0 w g s (N + 200000) (H0.out.less (by have := lbN3; omega))).mono ?_
 rintro e w1 ⟨l, A, c, rfl, hF, hN, hA⟩
 have hF4 : Fit 400 l := hF.mono cnN3
 have H1 := Aside0.mk (show At w0 w g s (N + 200000) w1 ∧ Kd.N stK 35 w1 w.heap.size (Fr w) (.slice A l.length c) l ∧ Fit 400 l from ⟨hA, hN, hF4⟩)
 clear hF hN hA hF4 H0
 go_wp2_with fail
 refine (okS_any l (H1.out.2.2.ok (by omega)) A c w1 ⟨Kd.V_mono (Kd.N_V H1.out.2.1) fun _ _ => trivial⟩).mono ?_
 rintro e w2 ⟨rfl, hb⟩
 have H2 := Aside0.mk (show At w0 w g s (N + 200000) w2 ∧ Kd.N stK 35 w2 w.heap.size (Fr w) (.slice A l.length c) l ∧ Fit 400 l from ⟨H1.out.1.below hb, Kd.N_below H1.out.2.1 hb, H1.out.2.2⟩)
 clear H1 hb
 cases stOkL l
 ·go_wp2_with fail
  refine (count_fr H2.out.1).mono ?_
  rintro e w3 ⟨x, B, d, A3, c3, rfl, hx4, hxt, hxc, hT, hL, hA, hk⟩
  obtain ⟨k0, ⟨k1, k2⟩, k3, k4, k5⟩ := x
  dsimp only at hx4
  subst hx4
  have hw := H2.out.1.k.1
  have H3 := Aside0.mk (show At w0 w g s N w3 ∧ TVo w3 (Fr w) k3 B d ∧ LVo w3 (Fr w) k4 A3 c3 from ⟨hA, hT.mono fun k hk => Nat.le_trans hw hk, hL.mono fun k hk => Nat.le_trans hw hk⟩)
  have HX := Aside0.mk (And.intro hxt hxc)
  clear hA hT hL hk H2 hxt hxc
  go_wp2_with ((with_reducible refine gate_dst (N := 11) rfl ?_); refine Kd.N_lit stK w.heap.size 35 rfl (N' := 11) rfl (xs := [(⟨k0, ⟨k1, k2⟩, k3, k4, []⟩ : St)]) (inner := [.int .i64 k0, .int .i64 k1, .int .i64 k2, .int .i64 k3.f0, .int .i64 k3.f1, .int .i64 k3.f2.f0, .int .i64 k3.f2.f1, .slice B k3.f3.length d, .slice A3 k4.length c3, .slice none 0 0]) (ok := Fr w) (okp := Fr w) (by go_simp; try rfl) (Reps.c10 (stLitO_F k0 k1 k2 k3 B d k4 A3 c3 [] none 0 w3 _ H3.out.2.1 H3.out.2.2 (LVo.nil _ _)) (Reps.none _ _)) (fun _ hk => hk) H3.out.1.k.1 (Below.refl _ _) H3.out.1.k.1 (by simp) ?_; intro vL wL ho hbL hgL hnL; clear hgL hnL; obtain ⟨A9, c9, eL⟩ := Kd.N_slice ho; subst eL)
  go_ret
  refine ⟨_, A9, c9, rfl, ?_, ho, H3.out.1.low hbL⟩
  have := (Fit.nil 0).snoc HX.out.1 HX.out.2
  exact Fit.mono (by simpa using this) (by omega)
 ·go_wp2
  go_ret
  exact ⟨l, A, c, rfl, H2.out.2.2, H2.out.2.1, H2.out.1.less (by omega)⟩
theorem some_fr {w0 wb W : World} {g N : Nat} {s : List Int} (h : At w0 wb g s (N + 130000000) W) (hwb : wb.heap.size ≤ W.heap.size) : Calls Tryz.prog 82 #[.pointer (some ⟨g, 0, none⟩)] W fun e w' => ∃ (l : List St) (A : Option Addr) (c : Nat), e = .returned (.slice A l.length c) ∧ Fit 400 l ∧ Kd.N stK 35 w' wb.heap.size (Fr wb) (.slice A l.length c) l ∧ At w0 wb g s N w' :=
 (some_dr h.here).mono fun e w' ⟨l, A, c, h1, h2, h3, h7⟩ => ⟨l, A, c, h1, h2, Kd.N_lower (Kd.N_mono h3 fun k hk => Nat.le_trans hwb hk) hwb, h7.over h⟩
def lenOf : Value → Nat
 | .slice _ n _ => n
 | _ => 0
set_option maxRecDepth 100000 in
set_option maxHeartbeats 4000000 in
theorem bentS_dr {w0 w : World} {g N : Nat} {s : List Int} (h : At w0 w g s (N + 300000000) w) : Calls Tryz.prog 50 #[.pointer (some ⟨g, 0, none⟩)] w fun e w' => LD w w' 500 e (At w0 w g s N w') := by
 have fr := h.fresh
 have H0 := Aside0.mk h
 clear h
 go_enter Tryz.func50, Tryz.ntmps50
 go_wp2_with fail
 refine (some_fr (N := N + 100000000) (H0.out.less (by omega)) (Nat.le_refl _)).mono ?_
 rintro e w1 ⟨l, A, c, rfl, hF, hN, hA⟩
 have HF := Aside0.mk hF
 clear hF H0
 have H1 := Aside0.mk (show At w0 w g s (N + 100000000) w1 ∧ Kd.N stK 35 w1 w.heap.size (Fr w) (.slice A l.length c) l from ⟨hA, hN⟩)
 clear  hA hN
 by_cases h0 : (l.length : Int) = 0
 ·have b0 : ((l.length : Int) == 0) = true := beq_iff_eq.2 h0
  clear h0
  go_wp2
  go_ret
  exact ⟨l, A, c, rfl, HF.out.mono (by omega), H1.out.2, At.less H1.out.1 (by omega)⟩
 have b0 : ((l.length : Int) == 0) = false := beq_eq_false_iff_ne.2 h0
 have hlen : l.length ≤ 400 := HF.out.len
 go_wp2_with fail
 refine (pick_dr (At.less (N := N + 100000000) (M := N + 99999999 + 1) H1.out.1 (by omega)) (l.length : Int) (by omega) (by omega)).mono ?_
 rintro e w2 ⟨i, rfl, i0, i1, hA, hk⟩
 have hk2 := hk.1
 have H2 := Aside0.mk (show At w0 w g s (N + 99999999) w2 ∧ Kd.N stK 35 w2 w.heap.size (Fr w) (.slice A l.length c) l from ⟨hA, Kd.N_keep H1.out.2 hk fr⟩)
 clear H1 hA hk b0 h0
 go_wp2_with fail
 refine (pick_dr (At.less (N := N + 99999999) (M := N + 99999998 + 1) H2.out.1 (by omega)) 50 (by omega) (by omega)).mono ?_
 rintro e w3 ⟨r, rfl, r0, r1, hA, hk⟩
 have hk3 := hk.1
 have H3 := Aside0.mk (show At w0 w g s (N + 99999998) w3 ∧ Kd.N stK 35 w3 w.heap.size (Fr w) (.slice A l.length c) l from ⟨hA, Kd.N_keep H2.out.2 hk fr⟩)
 clear H2 hA hk
 by_cases h0 : r = 0
 ·have c0 : (r == 0) = true := by simp [h0]
  clear h0
  go_wp2_with ((with_reducible refine gate_dst (N := 23) rfl ?_); refine Kd.R_lit (Kd.int .i64) w3.heap.size 3 rfl (N := 23) rfl (xs := [0, 4, 1, 2, 3]) (inner := [.int .i64 0, .int .i64 4, .int .i64 1, .int .i64 2, .int .i64 3]) (ok := fun k => k ≠ g) (okp := fun k => k ≠ g) (by go_simp; try rfl) (reps_ints _ _ _ [0, 4, 1, 2, 3]) (fun _ hk => hk) (by have := At.lt' H3.out.1; show w3.heap.size ≠ g; omega) (Below.refl _ _) (Nat.le_refl _) (by simp) ?_; intro v23 w4 hR hb4 hg_ hn_; clear hg_ hn_; obtain ⟨A4, c4, e4⟩ := Kd.R_slice hR; subst e4)
  have H4 := Aside0.mk (show At w0 w g s (N + 99999997 + 1) w4 ∧ Kd.N stK 35 w4 w.heap.size (Fr w) (.slice A l.length c) l from ⟨At.less (At.below H3.out.1 hb4) (by omega), Kd.N_keep H3.out.2 (kb_below (g := g) hb4) fr⟩)
  clear H3 hb4
  refine (num_dr H4.out.1 [0, 4, 1, 2, 3] (by decide) (by decide) A4 c4 (Kd.R_reads' hR).2.2 (Kd.R_reads' hR).2.1 (far_slice fun e => hR.1 g e.symm rfl)).mono ?_
  rintro e w5 ⟨n, rfl, _, hA, hk⟩
  have H5 := Aside0.mk (show At w0 w g s (N + 99999997) w5 ∧ Kd.N stK 35 w5 w.heap.size (Fr w) (.slice A l.length c) l from ⟨hA, Kd.N_keep H4.out.2 hk fr⟩)
  clear H4 hA hk hR
  obtain ⟨go, cap, eo, hgo, hgl, _⟩ := Kd.N_form H5.out.2 (by omega)
  injection eo with eo1 _ eo3
  subst eo1 eo3
  obtain ⟨ce, hcl, hM, hcc, hfr⟩ := Kd.N_elem H5.out.2 z35 i i0 i1
  have hj : i.toNat < l.length := by omega
  obtain ⟨x, hx⟩ : ∃ x, x = l[i.toNat] := ⟨_, rfl⟩
  have hgd : l.getD i.toNat z35 = x := by rw [hx]; simp [hj]
  rw [hgd] at hM
  obtain ⟨A7, c7, A8, c8, A9, c9, rfl, l7, g7, l8, g8, l9, g9⟩ := k35_openF hM
  have hxm : TinyS x := by rw [hx]; exact HF.out.2 _ (List.getElem_mem hj)
  have hset : ∀ (k0 : Int) (a0 : S24) (e0 : Ex), Tiny e0 → Fit 500 (l.set i.toNat ⟨k0, a0, e0, x.f3, x.f4⟩) := fun k0 a0 e0 he => (HF.out.set i.toNat hj _ (by
   cases hxm with
   | mk _ h2 h3 h4 h5 h6 => exact .mk _ he h3 h4 h5 h6) (by rw [cntS_eq, ← hx, cntS_eq x])).mono (by omega)
  have hTx : Tiny x.f2 := by cases hxm with | mk _ h2 h3 h4 h5 h6 => exact h2
  have HS := Aside0.mk (And.intro hset hTx)
  have HE := Aside0.mk (And.intro hcl (And.intro hcc (And.intro l7 (And.intro g7 (And.intro l8 (And.intro g8 (And.intro l9 g9)))))))
  clear hset hTx hxm hgd hM hcl hcc hfr l7 g7 l8 g8 l9 g9 hx
  go_wp2_with ((with_reducible refine gate_store (t := 3) (p := 26) rfl ?_); refine Kd.N_store stK w.heap.size rfl rfl 3 (.tmp 26) (.tmp 24) rfl 35 i 0 l ((⟨n, x.f1, x.f2, x.f3, x.f4⟩ : St)) (.int .i64 n) [.int .i64 n] [.int .i64 x.f0, .int .i64 x.f1.f0, .int .i64 x.f1.f1, .int .i64 x.f2.f0, .int .i64 x.f2.f1, .int .i64 x.f2.f2.f0, .int .i64 x.f2.f2.f1, .slice A7 x.f2.f3.length c7, .slice A8 x.f3.length c8, .slice A9 x.f4.length c9] (Fr w) (fun k => Fr w k ∧ k ≠ go) rfl (by first | rfl | omega) rfl rfl rfl (by simp [Value.oneCell']) H5.out.2 i0 i1 HE.out.1 HE.out.2.1 (show 1 ≤ 10 by omega) (k35_mkF _ _ (⟨n, x.f1, x.f2, x.f3, x.f4⟩ : St) HE.out.2.2.1 HE.out.2.2.2.1 HE.out.2.2.2.2.1 HE.out.2.2.2.2.2.1 HE.out.2.2.2.2.2.2.1 HE.out.2.2.2.2.2.2.2) (fun _ hk => hk) (Below.refl _ _) ?_; intro W9 hN hb hg)
  go_ret
  have e2 : (l.set i.toNat ((⟨n, x.f1, x.f2, x.f3, x.f4⟩ : St))).length = l.length := List.length_set
  rw [← e2] at hN ⊢
  exact ⟨_, _, _, rfl, HS.out.1 n x.f1 x.f2 HS.out.2, hN, At.less (At.low H5.out.1 hb) (by omega)⟩
 have c0 : (r == 0) = false := by simp [h0]
 by_cases h1 : r = 1
 ·have c1 : (r == 1) = true := by simp [h1]
  clear h0 h1
  go_wp2_with fail
  refine (addrBent_dr (At.less (N := N + 99999998) (M := N + 90000000 + 1000000) H3.out.1 (by omega))).mono ?_
  rintro e w5 ⟨a, b, rfl, hA, hk⟩
  have hk5 := hk.1
  have H4 := Aside0.mk (show At w0 w g s (N + 90000000) w5 ∧ Kd.N stK 35 w5 w.heap.size (Fr w) (.slice A l.length c) l from ⟨hA, Kd.N_keep H3.out.2 hk fr⟩)
  clear H3 hA hk
  obtain ⟨go, cap, eo, hgo, hgl, _⟩ := Kd.N_form H4.out.2 (by omega)
  injection eo with eo1 _ eo3
  subst eo1 eo3
  obtain ⟨ce, hcl, hM, hcc, hfr⟩ := Kd.N_elem H4.out.2 z35 i i0 i1
  have hj : i.toNat < l.length := by omega
  obtain ⟨x, hx⟩ : ∃ x, x = l[i.toNat] := ⟨_, rfl⟩
  have hgd : l.getD i.toNat z35 = x := by rw [hx]; simp [hj]
  rw [hgd] at hM
  obtain ⟨A7, c7, A8, c8, A9, c9, rfl, l7, g7, l8, g8, l9, g9⟩ := k35_openF hM
  have hxm : TinyS x := by rw [hx]; exact HF.out.2 _ (List.getElem_mem hj)
  have hset : ∀ (k0 : Int) (a0 : S24) (e0 : Ex), Tiny e0 → Fit 500 (l.set i.toNat ⟨k0, a0, e0, x.f3, x.f4⟩) := fun k0 a0 e0 he => (HF.out.set i.toNat hj _ (by
   cases hxm with
   | mk _ h2 h3 h4 h5 h6 => exact .mk _ he h3 h4 h5 h6) (by rw [cntS_eq, ← hx, cntS_eq x])).mono (by omega)
  have hTx : Tiny x.f2 := by cases hxm with | mk _ h2 h3 h4 h5 h6 => exact h2
  have HS := Aside0.mk (And.intro hset hTx)
  have HE := Aside0.mk (And.intro hcl (And.intro hcc (And.intro l7 (And.intro g7 (And.intro l8 (And.intro g8 (And.intro l9 g9)))))))
  clear hset hTx hxm hgd hM hcl hcc hfr l7 g7 l8 g8 l9 g9 hx
  go_wp2_with ((with_reducible refine gate_store (t := 24) (p := 34) rfl ?_); refine Kd.N_store stK w.heap.size rfl rfl 24 (.tmp 34) (.tmp 32) rfl 35 i 1 l ((⟨x.f0, ⟨a, b⟩, x.f2, x.f3, x.f4⟩ : St)) (.agg #[.int .i64 a, .int .i64 b]) [.int .i64 a, .int .i64 b] [.int .i64 x.f0, .int .i64 x.f1.f0, .int .i64 x.f1.f1, .int .i64 x.f2.f0, .int .i64 x.f2.f1, .int .i64 x.f2.f2.f0, .int .i64 x.f2.f2.f1, .slice A7 x.f2.f3.length c7, .slice A8 x.f3.length c8, .slice A9 x.f4.length c9] (Fr w) (fun k => Fr w k ∧ k ≠ go) rfl (by first | rfl | omega) rfl rfl rfl (by simp [Value.oneCell']) H4.out.2 i0 i1 HE.out.1 HE.out.2.1 (show 3 ≤ 10 by omega) (k35_mkF _ _ (⟨x.f0, ⟨a, b⟩, x.f2, x.f3, x.f4⟩ : St) HE.out.2.2.1 HE.out.2.2.2.1 HE.out.2.2.2.2.1 HE.out.2.2.2.2.2.1 HE.out.2.2.2.2.2.2.1 HE.out.2.2.2.2.2.2.2) (fun _ hk => hk) (Below.refl _ _) ?_; intro W9 hN hb hg)
  go_ret
  have e2 : (l.set i.toNat ((⟨x.f0, ⟨a, b⟩, x.f2, x.f3, x.f4⟩ : St))).length = l.length := List.length_set
  rw [← e2] at hN ⊢
  exact ⟨_, _, _, rfl, HS.out.1 x.f0 ⟨a, b⟩ x.f2 HS.out.2, hN, At.less (At.low H4.out.1 hb) (by omega)⟩
 have c1 : (r == 1) = false := by simp [h1]
 by_cases h2 : r = 2
 ·have c2 : (r == 2) = true := by simp [h2]
  clear h0 h1 h2
  have hlt := Kd.N_lt H3.out.2
  have hw3 := (H3.out.1).k.1
  go_wp2_with fail
  refine (exBent_dr (At.less (N := N + 99999998) (M := N + 90000000 + 1000000) H3.out.1 (by omega))).mono ?_
  rintro e w5 ⟨y, B, e, rfl, hy, hT, hA, hk⟩
  have hk5 := hk.1
  have H4 := Aside0.mk (show At w0 w g s (N + 90000000) w5 ∧ TVo w5 (Fr w3) y B e ∧ Kd.N stK 35 w5 w.heap.size (Fr w) (.slice A l.length c) l from ⟨hA, hT, Kd.N_keep H3.out.2 hk fr⟩)
  clear H3 hA hk
  have HY := Aside0.mk hy
  clear hy
  obtain ⟨go, cap, eo, hgo, hgl, _⟩ := Kd.N_form H4.out.2.2 (by omega)
  injection eo with eo1 _ eo3
  subst eo1 eo3
  obtain ⟨ce, hcl, hM, hcc, hfr⟩ := Kd.N_elem H4.out.2.2 z35 i i0 i1
  have hj : i.toNat < l.length := by omega
  obtain ⟨x, hx⟩ : ∃ x, x = l[i.toNat] := ⟨_, rfl⟩
  have hgd : l.getD i.toNat z35 = x := by rw [hx]; simp [hj]
  rw [hgd] at hM
  obtain ⟨A7, c7, A8, c8, A9, c9, rfl, l7, g7, l8, g8, l9, g9⟩ := k35_openF hM
  have hxm : TinyS x := by rw [hx]; exact HF.out.2 _ (List.getElem_mem hj)
  have hset : ∀ (k0 : Int) (a0 : S24) (e0 : Ex), Tiny e0 → Fit 500 (l.set i.toNat ⟨k0, a0, e0, x.f3, x.f4⟩) := fun k0 a0 e0 he => (HF.out.set i.toNat hj _ (by
   cases hxm with
   | mk _ h2 h3 h4 h5 h6 => exact .mk _ he h3 h4 h5 h6) (by rw [cntS_eq, ← hx, cntS_eq x])).mono (by omega)
  have hTx : Tiny x.f2 := by cases hxm with | mk _ h2 h3 h4 h5 h6 => exact h2
  have HS := Aside0.mk (And.intro hset hTx)
  have HE := Aside0.mk (And.intro hcl (And.intro hcc (And.intro l7 (And.intro g7 (And.intro l8 (And.intro g8 (And.intro l9 g9)))))))
  clear hset hTx hxm hgd hM hcl hcc hfr l7 g7 l8 g8 l9 g9 hx
  have hTy := TVo.mono (ok' := fun k => Fr w k ∧ k ≠ go) H4.out.2.1 (fun k hk => ⟨by show w.heap.size ≤ k; have : w3.heap.size ≤ k := hk; omega, by have := hlt go rfl; have : w3.heap.size ≤ k := hk; omega⟩)
  have HTY := Aside0.mk hTy
  clear hTy
  go_wp2_with ((with_reducible refine gate_store (t := 27) (p := 42) rfl ?_); refine Kd.N_store stK w.heap.size rfl rfl 27 (.tmp 42) (.tmp 40) rfl 35 i 3 l ((⟨x.f0, x.f1, y, x.f3, x.f4⟩ : St)) (.agg #[.int .i64 y.f0, .int .i64 y.f1, .int .i64 y.f2.f0, .int .i64 y.f2.f1, .slice B y.f3.length e]) [.int .i64 y.f0, .int .i64 y.f1, .int .i64 y.f2.f0, .int .i64 y.f2.f1, .slice B y.f3.length e] [.int .i64 x.f0, .int .i64 x.f1.f0, .int .i64 x.f1.f1, .int .i64 x.f2.f0, .int .i64 x.f2.f1, .int .i64 x.f2.f2.f0, .int .i64 x.f2.f2.f1, .slice A7 x.f2.f3.length c7, .slice A8 x.f3.length c8, .slice A9 x.f4.length c9] (Fr w) (fun k => Fr w k ∧ k ≠ go) rfl (by first | rfl | omega) rfl rfl rfl (by simp [Value.oneCell']) H4.out.2.2 i0 i1 HE.out.1 HE.out.2.1 (show 8 ≤ 10 by omega) (k35_mkF _ _ (⟨x.f0, x.f1, y, x.f3, x.f4⟩ : St) HTY.out.reads.1 (Kd.V_F HTY.out.v) HE.out.2.2.2.2.1 HE.out.2.2.2.2.2.1 HE.out.2.2.2.2.2.2.1 HE.out.2.2.2.2.2.2.2) (fun _ hk => hk) (Below.refl _ _) ?_; intro W9 hN hb hg)
  go_ret
  have e2 : (l.set i.toNat ((⟨x.f0, x.f1, y, x.f3, x.f4⟩ : St))).length = l.length := List.length_set
  rw [← e2] at hN ⊢
  exact ⟨_, _, _, rfl, HS.out.1 x.f0 x.f1 y HY.out, hN, At.less (At.low H4.out.1 hb) (by omega)⟩
 have c2 : (r == 2) = false := by simp [h2]
 by_cases h3 : r = 3
 ·have c3 : (r == 3) = true := by simp [h3]
  clear h0 h1 h2 h3
  go_wp2
  go_loopw [3, 5] (fun v3 v5 wr => ∃ (x5 : Int) (l' : List St) (A' : Option Addr) (c' m : Nat), v3 = .slice A' l'.length c' ∧ v5 = .int .i64 x5 ∧ Aside0 (∃ j : Nat, x5 = j ∧ j ≤ 4 ∧ m + (4 - j) ≤ 404 ∧ At w0 w g s (N + (4 - j) * 100000) wr) ∧ Aside0 (Fit m l' ∧ Kd.N stK 35 wr w.heap.size (Fr w) (.slice A' l'.length c') l')) (fun _ v5 _ => 4 - (intOf v5).toNat)
  case atStart => exact ⟨0, l, A, c, 400, rfl, rfl, ⟨0, rfl, by omega, by omega, At.less H3.out.1 (by omega)⟩, ⟨HF.out, H3.out.2⟩⟩
  case round =>
   obtain ⟨x5, l', A', c', m, rfl, rfl, HJ, HO⟩ := hrel
   by_cases hx : x5 < 4
   rotate_left
   ·have b5 : decide (x5 < 4) = false := decide_eq_false hx
    have hend : LD w wr 500 (.returned (.slice A' l'.length c')) (At w0 w g s N wr) := by
     obtain ⟨j, _, _, hm, hA⟩ := HJ.out
     exact ⟨l', A', c', rfl, HO.out.1.mono (by omega), HO.out.2, hA.less (by omega)⟩
    clear hx
    go_wp2
    go_ret
    exact hend
   have b5 : decide (x5 < 4) = true := decide_eq_true hx
   obtain ⟨j, hj, hj4, hm, hA⟩ := HJ.out
   have hw5 : wrap64 (x5 + 1) = ((j + 1 : Nat) : Int) := by unfold wrap64; omega
   have hlt := Kd.N_lt HO.out.2
   have hws := hA.k.1
   have HJ2 := Aside0.mk (show x5 = j ∧ j ≤ 3 ∧ m + 1 + (4 - (j + 1)) ≤ 404 ∧ Fit m l' from ⟨hj, by omega, by omega, HO.out.1⟩)
   have H9 := Aside0.mk (show At w0 w g s (N + (4 - (j + 1)) * 100000 + 100000) wr ∧ Kd.N stK 35 wr w.heap.size (Fr w) (.slice A' l'.length c') l' from ⟨hA.less (by omega), HO.out.2⟩)
   clear hj hj4 hm hA hx HJ HO
   go_wp2_with fail
   refine (expr_dr 1 (by omega) H9.out.1).mono ?_
   rintro e w5 ⟨x, B, e, rfl, hx, hT, hA, hk⟩
   have hk5 := hk.1
   have H10 := Aside0.mk (show At w0 w g s (N + (4 - (j + 1)) * 100000) w5 ∧ TVo w5 (Fr w) x B e ∧ Kd.N stK 35 w5 w.heap.size (Fr w) (.slice A' l'.length c') l' from ⟨hA, hT.mono fun k hk => Nat.le_trans hws hk, Kd.N_keep H9.out.2 hk fr⟩)
   clear H9 hA hk
   have HX := Aside0.mk hx
   clear hx
   go_wp2_with ((with_reducible refine gate_dst (N := 53) rfl ?_); refine Kd.N_lit stK w.heap.size 35 rfl (N' := 53) rfl (xs := [(⟨2, ⟨0, 0⟩, x, l', []⟩ : St)]) (inner := [.int .i64 2, .int .i64 0, .int .i64 0, .int .i64 x.f0, .int .i64 x.f1, .int .i64 x.f2.f0, .int .i64 x.f2.f1, .slice B x.f3.length e, .slice A' l'.length c', .slice none 0 0]) (ok := Fr w) (okp := Fr w) (by go_simp; try rfl) (Reps.c10 (stLitO_F 2 0 0 x B e l' A' c' [] none 0 w5 _ (H10.out.2.1) ⟨Kd.N_V (H10.out.2.2)⟩ (LVo.nil _ _)) (Reps.none _ _)) (fun _ hk => hk) (H10.out.1).k.1 (Below.refl _ _) (H10.out.1).k.1 (by simp) ?_; intro vL wL ho hbL hgL hnL; clear hgL hnL; obtain ⟨A9, c9, eL⟩ := Kd.N_slice ho; subst eL)
   go_roundw
   case measure => have := HJ2.out; simp [intOf]; omega
   case rel =>
    rw [hw5]
    have hf := Fit.mk1 (k := 2) (a := ⟨0, 0⟩) HX.out HJ2.out.2.2.2 (Fit.nil 0) (by have := HJ2.out.2.2.1; omega) (by omega)
    have hf1 : Fit (m + 1) [(⟨2, ⟨0, 0⟩, x, l', []⟩ : St)] := by
     have := (Fit.nil 0).snoc hf.1 hf.2
     exact Fit.mono (by simpa using this) (by omega)
    exact ⟨_, [(⟨2, ⟨0, 0⟩, x, l', []⟩ : St)], A9, c9, m + 1, rfl, rfl, ⟨j + 1, rfl, by have := HJ2.out; omega, HJ2.out.2.2.1, At.low H10.out.1 hbL⟩, ⟨hf1, ho⟩⟩
 have c3 : (r == 3) = false := by simp [h3]
 by_cases h4 : r = 4
 rotate_left
 ·have c4 : (r == 4) = false := by simp [h4]
  clear h0 h1 h2 h3 h4
  go_wp2
  go_ret
  exact ⟨l, A, c, rfl, HF.out.mono (by omega), H3.out.2, At.less H3.out.1 (by omega)⟩
 have c4 : (r == 4) = true := by simp [h4]
 clear h0 h1 h2 h3 h4
 go_wp2
 go_loopw [3] (fun v3 wr => ∃ (l' : List St) (A' : Option Addr) (c' m : Nat), v3 = .slice A' l'.length c' ∧ Aside0 (m + (17 - l'.length) ≤ 417 ∧ At w0 w g s (N + (17 - l'.length) * 200000) wr) ∧ Aside0 (Fit m l' ∧ Kd.N stK 35 wr w.heap.size (Fr w) (.slice A' l'.length c') l')) (fun v3 _ => 17 - lenOf v3)
 case atStart => exact ⟨l, A, c, 400, rfl, ⟨by omega, At.less H3.out.1 (by omega)⟩, ⟨HF.out, H3.out.2⟩⟩
 case round =>
  obtain ⟨l', A', c', m, rfl, HJ, HO⟩ := hrel
  by_cases hx : (l'.length : Int) ≤ 16
  rotate_left
  ·have b5 : decide ((l'.length : Int) ≤ 16) = false := decide_eq_false hx
   have hend : LD w wr 500 (.returned (.slice A' l'.length c')) (At w0 w g s N wr) := ⟨l', A', c', rfl, HO.out.1.mono (by have := HJ.out.1; omega), HO.out.2, HJ.out.2.less (by omega)⟩
   clear hx
   go_wp2
   go_ret
   exact hend
  have b5 : decide ((l'.length : Int) ≤ 16) = true := decide_eq_true hx
  have hlt := Kd.N_lt HO.out.2
  have hws := HJ.out.2.k.1
  have HJ2 := Aside0.mk (show l'.length ≤ 16 ∧ m + 1 + (17 - (l'.length + 1)) ≤ 417 ∧ Fit m l' from ⟨by omega, by have := HJ.out.1; omega, HO.out.1⟩)
  have H9 := Aside0.mk (show At w0 w g s (N + (17 - (l'.length + 1)) * 200000 + 100000 + 2) wr ∧ Kd.N stK 35 wr w.heap.size (Fr w) (.slice A' l'.length c') l' from ⟨HJ.out.2.less (by omega), HO.out.2⟩)
  clear hx HJ HO
  go_wp2_with fail
  refine (to_dr H9.out.1).mono ?_
  rintro e w4 ⟨y, z, rfl, hA, hk⟩
  have hk4 := hk.1
  have H10 := Aside0.mk (show At w0 w g s (N + (17 - (l'.length + 1)) * 200000 + 100000) w4 ∧ Kd.N stK 35 w4 w.heap.size (Fr w) (.slice A' l'.length c') l' from ⟨hA, Kd.N_keep H9.out.2 hk fr⟩)
  clear H9 hA hk
  go_wp2_with fail
  refine (expr_dr 1 (by omega) H10.out.1).mono ?_
  rintro e w5 ⟨x, B, e, rfl, hx, hT, hA, hk⟩
  have hk5 := hk.1
  have H11 := Aside0.mk (show At w0 w g s (N + (17 - (l'.length + 1)) * 200000) w5 ∧ TVo w5 (Fr wr) x B e ∧ Kd.N stK 35 w5 w.heap.size (Fr w) (.slice A' l'.length c') l' from ⟨hA, hT.mono fun k hk => Nat.le_trans hk4 hk, Kd.N_keep H10.out.2 hk fr⟩)
  clear H10 hA hk
  have HX := Aside0.mk hx
  clear hx
  go_wp2_with ((with_reducible refine gate_builtin (b := .append) (xs := #[.tmp 59, .tmp 65]) rfl ?_); at_builtin; refine Kd.N_append k35 w.heap.size rfl (.tmp 59) (.tmp 65) 33 35 (.agg zS) 128 rfl Tryz.underlying33 info35 rfl (by decide) (by omega) (.slice A' l'.length c') (l') ((⟨1, ⟨y, z⟩, x, [], []⟩ : St)) ([.int .i64 1, .int .i64 y, .int .i64 z, .int .i64 x.f0, .int .i64 x.f1, .int .i64 x.f2.f0, .int .i64 x.f2.f1, .slice B x.f3.length e, .slice none 0 0, .slice none 0 0]) (Fr w) (Fr wr) rfl rfl (stLitO_F 1 y z x B e [] none 0 [] none 0 _ _ (H11.out.2.1) (LVo.nil _ _) (LVo.nil _ _)) (fun k hk => ⟨Nat.le_trans hws hk, fun e => by have := hlt k e.symm; have : wr.heap.size ≤ k := hk; omega⟩) (fun k hk => by have := (H11.out.1).k.1; show w.heap.size ≤ k; omega) (H11.out.2.2) (Below.refl _ _) (by have := (H11.out.1).k.1; omega) (by have := HJ2.out.1; omega) ?_; intro v1 W1 hN hb hg hat)
  go_roundw
  case measure => have := HJ2.out.1; obtain ⟨A1, c1, rfl⟩ := Kd.N_slice hN; simp [lenOf]; omega
  case rel =>
   obtain ⟨A1, c1, rfl⟩ := Kd.N_slice hN
   have e2 : (l' ++ [(⟨1, ⟨y, z⟩, x, [], []⟩ : St)]).length = l'.length + 1 := by simp
   have hf := Fit.mk1 (n := 0) (m := 0) (k := 1) (a := ⟨y, z⟩) HX.out (Fit.nil 0) (Fit.nil 0) (by omega) (by omega)
   exact ⟨l' ++ [(⟨1, ⟨y, z⟩, x, [], []⟩ : St)], A1, c1, m + 1, rfl, ⟨by rw [e2]; exact HJ2.out.2.1, by rw [e2]; exact At.low H11.out.1 hb⟩, ⟨HJ2.out.2.2.snoc hf.1 hf.2, hN⟩⟩
end Go.Proofs.YtendbgedpjcocaaGreatDoor.B
