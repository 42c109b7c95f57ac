/- The law FnExactCodeOf. -/
import Derived.Test.YtddnijmgipffeaaCodeTop
import Derived.Test.YtddnijmgipffeaaMarkIns
import Derived.Test.YtddnijmgipffeaaShapeAll
import Derived.Test.YtddnijmgipffeaaOpensSt
namespace Go.Proofs.Ytddnijmgipffeaa.B
open Go.RowKit Go.Shelf Go.Proofs.YtddnijmgipffeaaW.PrintWords Go.Proofs.YtddnijmgipffeaaW.PrintLast Go.Proofs.YtddnijmgipffeaaW.PrintMore
set_option linter.unusedVariables false

theorem R_rd {α : Type} {d : Kd α} {e : Nat} {w : World} {base : Nat} {ok : Nat → Prop} {A : Option Addr} {n c : Nat} {xs : List α} (h : d.R e w base ok (.slice A n c) xs) : xs.length ≤ c ∧ d.C w A xs.length xs := by
 obtain ⟨A', c', he, hl, hC⟩ := Kd.R_reads h
 injection he with e1 e2 e3
 subst e1 e3
 exact ⟨hl, hC⟩
theorem toSts_any (l : List LSt) (L : List ISt) (hL : L = l.map stTo) (hn : stsN l ≤ 1048576) (A : Option Addr) (c : Nat) (W : World) (g : k66.C W A l.length l) (hl : l.length ≤ c) :
  Calls Try.prog 10 #[.slice A l.length c] W fun e W' => ∃ B d, e = .returned (.slice B L.length d) ∧ Kd.R k69 69 W' W.heap.size (fun _ => True) (.slice B L.length d) L ∧ Below W.heap.size W W' := by
 subst hL
 obtain ⟨K, hK⟩ := toSts l hn
 refine (laws_toStmtS.calls K A c l (l.map stTo) W g hl (hK K (Nat.le_refl _))).mono ?_
 rintro e W' ⟨v, rfl, h1, hb⟩
 obtain ⟨B, d, rfl⟩ := Kd.R_slice h1
 exact ⟨B, d, rfl, h1, hb⟩
theorem eqSts_any (L : List ISt) (hl : L.length ≤ 1048576) (ho : ∀ s ∈ L, istOk s) (B : Option Addr) (d : Nat) (D : Option Addr) (f : Nat) (W : World) (g : L.length ≤ d ∧ k69.C W B L.length L) (h : L.length ≤ f ∧ k69.C W D L.length L) :
  Calls Try.prog 13 #[.slice B L.length d, .slice D L.length f] W fun e W' => e = .returned (.bool true) ∧ Below W.heap.size W W' := by
 obtain ⟨K, hK⟩ := eqSts L (by omega) ho
 exact laws_eqStmtS.calls K B d L D f L true W g.2 g.1 h.2 h.1 (hK K (Nat.le_refl _))
theorem specCode_any (L : List ISt) (h1 : manyT 4 L ≤ 1048576) (ho : ∀ s ∈ L, istOk s) (B : Option Addr) (d : Nat) (W : World) (g : k69.C W B L.length L) (hl : L.length ≤ d) :
  Calls Try.prog 9 #[.slice B L.length d] W fun e W' => ∃ U y, e = .returned (.slice U (codeR L).length y) ∧ ((codeR L).length ≤ y ∧ k39.C W' U (codeR L).length (codeR L)) ∧ Below W.heap.size W W' := by
 obtain ⟨K, hK⟩ := specCode_is L h1 ho
 refine (spec_CodeOf.calls K B d L (codeR L) W g hl (hK K (Nat.le_refl _))).mono ?_
 rintro e W' ⟨v, rfl, h2, hb⟩
 obtain ⟨U, y, rfl⟩ := Kd.R_slice h2
 exact ⟨U, y, rfl, R_rd h2, hb⟩
theorem eqIns_any (rs : List IIns) (hr : rs.length ≤ 256) (U : Option Addr) (y : Nat) (G : Option Addr) (t : Nat) (W : World) (g : rs.length ≤ y ∧ k39.C W U rs.length rs) (h : rs.length ≤ t ∧ k39.C W G rs.length rs) :
  Calls Try.prog 12 #[.slice U rs.length y, .slice G rs.length t] W fun e W' => e = .returned (.bool true) ∧ Below W.heap.size W W' := by
 obtain ⟨K, hK⟩ := eqI_is rs (by omega)
 exact laws_eqInsS.calls K U y rs G t rs true W g.2 g.1 h.2 h.1 (hK K (Nat.le_refl _))
theorem heldIns_any (n : Nat) (hn : n ≤ 256) (G : Option Addr) (t : Nat) (W : World) (h : n ≤ t ∧ k39.C W G n (markedI 1 n)) :
  Calls Try.prog 16 #[.slice G n t, .int .i64 1] W fun e W' => e = .returned (.int .i64 (1 + 4 * n)) ∧ Below W.heap.size W W' := by
 obtain ⟨K, hK⟩ := heldI_is 1 n (by omega) (by omega)
 have := laws_heldInsS.calls K G t (markedI 1 n) 1 (1 + 4 * n) W (by rw [markedI_len]; exact h.2) (by rw [markedI_len]; exact h.1) (hK K (Nat.le_refl _))
 rw [markedI_len] at this
 refine this.mono ?_
 rintro e W' ⟨he, hd⟩
 exact ⟨he, hd.below⟩
set_option maxRecDepth 100000 in
set_option maxHeartbeats 4000000 in
theorem markNone (A : Option Addr) (c : Nat) (W : World) : Calls Try.prog 15 #[.slice A 0 c, .int .i64 1] W fun e W' => e = .returned (.int .i64 1) ∧ W' = W := by
 have HM := Aside0.mk (show (0 : Nat) ≤ c from Nat.zero_le c)
 go_enter Try.func15, Try.ntmps15
 go_wp2
 go_loopw [1, 5] (fun kv iv wr => iv = .int .i64 0 ∧ kv = .int .i64 1 ∧ Aside0 (wr = W)) (fun _ _ _ => 0)
 case atStart => exact ⟨rfl, rfl, ⟨rfl⟩⟩
 case round =>
  obtain ⟨rfl, rfl, HR⟩ := hrel
  go_wp2
  go_ret
  exact ⟨rfl, HR.out⟩
theorem markIns_any (rs : List IIns) (hr : rs.length ≤ 256) (base : Nat) (G : Option Addr) (t : Nat) (W : World) (hR : Kd.R k39 39 W base (fun _ => True) (.slice G rs.length t) rs) :
  Calls Try.prog 15 #[.slice G rs.length t, .int .i64 1] W fun e W' => e = .returned (.int .i64 (1 + 4 * rs.length)) ∧ (rs.length ≤ t ∧ k39.C W' G rs.length (markedI 1 rs.length)) ∧ Ed (fun b => base ≤ b) W W' := by
 rcases Nat.eq_zero_or_pos rs.length with h0 | h0
 ·obtain rfl : rs = [] := List.length_eq_zero_iff.1 h0
  refine (markNone G t W).mono ?_
  rintro e W' ⟨rfl, rfl⟩
  exact ⟨rfl, R_rd hR, Ed.refl _ _⟩
 ·obtain ⟨b, cap, cur, hv, hgb, hbb, hn, hcap, hs, hc⟩ := ins_cells hR h0
  injection hv with e1 e2 e3
  subst e1 e3
  refine (markIns_row b rs.length t cur 1 W (by omega) (by omega) hn (Nat.le_trans hcap (by decide)) ⟨cur, hbb, hs, fun q i hq => absurd hq (by omega), fun q i hq hi => by
   have h := hc q hq i hi
   match i, hi with
   | 0, _ => exact ⟨_, h⟩
   | 1, _ => exact ⟨_, h⟩
   | 2, _ => exact ⟨_, h⟩
   | 3, _ => exact ⟨_, h⟩⟩).mono ?_
  rintro e W' ⟨rfl, hM, hE⟩
  refine ⟨rfl, ?_, ⟨hE.os, hE.tape, hE.output, hE.size, fun i hi hb => hE.far i hi (fun h => hb (by rw [h]; exact hgb)), fun i cs t' hf hcs => ?_⟩⟩
  ·obtain ⟨c', hb', hs', hm, _⟩ := hM.ex
   have hrow : Kd.R k39 39 W' base (fun _ => True) (.slice (some ⟨b, 0, none⟩) (markedI 1 rs.length).length t) (markedI 1 rs.length) :=
    ins_row hgb hb' (by rw [markedI_len]; exact hn) hcap hs' (fun j hj i hi => by
     rw [markedI_len] at hj
     rw [hm j i hj hi, markedI_get]
     match i, hi with
     | 0, _ => simp [insV, markI]
     | 1, _ => simp [insV, markI]
     | 2, _ => simp [insV, markI]
     | 3, _ => simp [insV, markI])
   have := R_rd hrow
   rw [markedI_len] at this
   exact this
  ·by_cases hib : i = b
   ·exact hE.near i cs t' hib hcs
   ·exact ⟨cs, (hE.far i (blk_lt hcs) hib).trans hcs, rfl, fun _ => .inl rfl⟩
/-- A row that is read. -/
def InsR (w : World) (U : Option Addr) (y : Nat) (rs : List IIns) : Prop := rs.length ≤ y ∧ k39.C w U rs.length rs
theorem InsR.below {w w' : World} {U : Option Addr} {y : Nat} {rs : List IIns} (h : InsR w U y rs) (hb : Below w.heap.size w w') : InsR w' U y rs := ⟨h.1, Kd.C_below h.2 hb⟩
set_option maxRecDepth 100000 in
set_option maxHeartbeats 8000000 in
theorem law_CodeOf (l : List LSt) (A : Option Addr) (c : Nat) (w : World) (g : k66.C w A l.length l) (hl : l.length ≤ c) :
  Calls Try.prog 3 #[.slice A l.length c] w fun e w' => e = .returned (.bool true) ∧ Below w.heap.size w w' := by
 obtain ⟨hlen, hok⟩ := stsOk_of g
 obtain ⟨Ks, hKs⟩ := szSts l hlen hok 1048576 ⟨by omega, by omega⟩
 have HSZ := Aside0.mk (laws_szStmtS.calls Ks A c l 1048576 _ w g hl (hKs Ks (Nat.le_refl _)))
 obtain ⟨L, hL⟩ : ∃ L, L = l.map stTo := ⟨_, rfl⟩
 have HTO := Aside0.mk (fun (hn : stsN l ≤ 1048576) (W : World) (hW : Below w.heap.size w W) => toSts_any l L hL hn A c W (Kd.C_below g hW) hl)
 clear g hl hKs hok
 go_enter Try.func3, Try.ntmps3
 go_wp2_with fail
 refine HSZ.out.mono ?_
 rintro e w1 ⟨rfl, hB1⟩
 clear HSZ
 obtain ⟨r, hr⟩ : ∃ r, r = szV (stsN l) 1048576 := ⟨_, rfl⟩
 rw [← hr]
 by_cases hn : r < 0
 ·have b1 : decide (r < 0) = true := decide_eq_true hn
  have HB := Aside0.mk hB1
  clear hB1 hr
  go_wp2
  go_ret
  exact ⟨rfl, HB.out⟩
 have b1 : decide (r < 0) = false := decide_eq_false hn
 have hN : stsN l ≤ 1048576 := by
  have h := hn
  rw [hr, szV] at h
  by_cases h2 : (stsN l : Int) ≤ 1048576
  ·omega
  ·rw [if_neg h2] at h; omega
 have hokL : ∀ s ∈ L, istOk s := by rw [hL]; exact (stsTo_ok l hN).2
 have hlenL : L.length ≤ 1048576 := by rw [hL, List.length_map]; exact (stsTo_ok l hN).1
 have hmany : manyT 4 L ≤ 1048576 := by rw [hL]; exact Nat.le_trans (manyT_le 4 l) hN
 have hM : (L.map istM).sum ≤ 10000000 := by rw [hL]; exact Nat.le_trans (istsM_to l) (by omega)
 obtain ⟨rs, hrs⟩ : ∃ rs, rs = codeR L := ⟨_, rfl⟩
 obtain ⟨nn, hnn⟩ : ∃ nn, nn = (L.map istM).sum := ⟨_, rfl⟩
 have hrl : rs.length ≤ 256 := by rw [hrs]; exact codeR_len L
 have HTO' := Aside0.mk (HTO.out hN)
 have HSP := Aside0.mk (fun (B : Option Addr) (d : Nat) (W : World) (g : L.length ≤ d ∧ k69.C W B L.length L) => specCode_any L hmany hokL B d W g.2 g.1)
 have HIM := Aside0.mk (fun (B : Option Addr) (d : Nat) (W : World) (g : L.length ≤ d ∧ k69.C W B L.length L) => codeOf_any L B d W g.2 g.1)
 have HEQ := Aside0.mk (eqSts_any L hlenL hokL)
 rw [← hrs] at HSP HIM
 have HLEN := Aside0.mk (And.intro hrl (And.intro hnn hM))
 have HB1 := Aside0.mk hB1
 clear hn hr hN hokL hlenL hmany hM hrs hrl hnn hL hB1 HTO hlen
 go_wp2_with fail
 refine (HTO'.out w1 HB1.out).mono ?_
 rintro e w2 ⟨B2, d2, rfl, hR2, hb2⟩
 have H2 := Aside0.mk (And.intro (R_rd hR2) (HB1.out.trans (hb2.mono HB1.out.size)))
 clear hR2 hb2
 go_wp2_with fail
 refine (HSP.out B2 d2 w2 H2.out.1).mono ?_
 rintro e w3 ⟨U, y, rfl, hU, hb3⟩
 have H3 := Aside0.mk (show InsR w3 U y rs ∧ Below w.heap.size w w3 from ⟨hU, H2.out.2.trans (hb3.mono H2.out.2.size)⟩)
 clear hU hb3
 go_wp2_with fail
 refine (HTO'.out w3 H3.out.2).mono ?_
 rintro e w4 ⟨B4, d4, rfl, hR4, hb4⟩
 have hSH := shSt_of (F := fun b => w3.heap.size ≤ b ∧ b < w4.heap.size) (fun b h1 h2 => ⟨h1, h2⟩) L _ _ hR4
 rw [← HLEN.out.2.1] at hSH
 have HMK := Aside0.mk (markSt_any hSH)
 have H4 := Aside0.mk (And.intro (R_rd hR4) (And.intro hb4 hb4.size))
 clear hR4 hb4 hSH
 go_wp2_with fail
 refine (HIM.out B4 d4 w4 H4.out.1).mono ?_
 rintro e w5 ⟨G, t, rfl, hR5, hb5⟩
 have H5 := Aside0.mk (And.intro hR5 hb5)
 clear hR5 hb5
 have HH5 := Aside0.mk (show InsR w5 U y rs from (H3.out.1.below H4.out.2.1).below H5.out.2)
 go_wp2_with fail
 refine (eqIns_any rs HLEN.out.1 G t U y w5 (R_rd H5.out.1) HH5.out).mono ?_
 rintro e w6 ⟨rfl, hb6⟩
 have H6 := Aside0.mk (show Below w4.heap.size w4 w6 ∧ Kd.R k39 39 w6 w4.heap.size (fun _ => True) (.slice G rs.length t) rs ∧ Below w.heap.size w w6 from
  ⟨H5.out.2.trans (hb6.mono H5.out.2.size), Kd.R_below H5.out.1 hb6, (H3.out.2.trans (H4.out.2.1.mono H3.out.2.size)).trans ((H5.out.2.trans (hb6.mono H5.out.2.size)).mono (Nat.le_trans H3.out.2.size H4.out.2.2))⟩)
 clear hb6 HH5
 go_wp2_with fail
 refine (HTO'.out w6 H6.out.2.2).mono ?_
 rintro e w7 ⟨B7, d7, rfl, hR7, hb7⟩
 have H7 := Aside0.mk (And.intro (R_rd hR7) hb7)
 clear hR7 hb7
 go_wp2_with fail
 refine (HEQ.out B4 d4 B7 d7 w7 ⟨H4.out.1.1, Kd.C_below (Kd.C_below H4.out.1.2 H6.out.1) H7.out.2⟩ H7.out.1).mono ?_
 rintro e w8 ⟨rfl, hb8⟩
 have H8 := Aside0.mk (show Below w4.heap.size w4 w8 ∧ Kd.R k39 39 w8 w4.heap.size (fun _ => True) (.slice G rs.length t) rs from by
  have hb68 : Below w6.heap.size w6 w8 := H7.out.2.trans (hb8.mono H7.out.2.size)
  exact ⟨H6.out.1.trans (hb68.mono H6.out.1.size), Kd.R_below H6.out.2.1 hb68⟩)
 clear hb8
 go_wp2_with fail
 refine (HMK.out 1 w8 (Ed.of_below H8.out.1) (by omega) (by have h1 := HLEN.out.2.1; have h2 := HLEN.out.2.2; omega)).mono ?_
 rintro e w9 ⟨rfl, hE9⟩
 obtain ⟨kk, hkk⟩ : ∃ kk : Int, kk = 1 + (nn : Nat) := ⟨_, rfl⟩
 rw [← hkk]
 have b2 : decide (kk < 0) = false := decide_eq_false (by omega)
 have H9 := Aside0.mk (show Below w3.heap.size w3 w9 ∧ Kd.R k39 39 w9 w4.heap.size (fun _ => True) (.slice G rs.length t) rs from
  ⟨(H4.out.2.1.trans (H8.out.1.mono H4.out.2.2)).trans (hE9.below (fun b h => h.1) (Nat.le_trans H4.out.2.2 H8.out.1.size)), R_ed H8.out.2 hE9 (fun b h => h.2)⟩)
 clear hE9 hkk HMK
 go_wp2_with fail
 refine (eqIns_any rs HLEN.out.1 G t U y w9 (R_rd H9.out.2) (H3.out.1.below H9.out.1)).mono ?_
 rintro e w10 ⟨rfl, hb10⟩
 have H10 := Aside0.mk (show Below w3.heap.size w3 w10 ∧ Kd.R k39 39 w10 w3.heap.size (fun _ => True) (.slice G rs.length t) rs from
  ⟨H9.out.1.trans (hb10.mono H9.out.1.size), Kd.R_lower (Kd.R_below H9.out.2 hb10) H4.out.2.2⟩)
 clear hb10 b2
 obtain ⟨mv, hmv⟩ : ∃ mv : Int, mv = 1 + 4 * (rs.length : Int) := ⟨_, rfl⟩
 have HMI := Aside0.mk (markIns_any rs HLEN.out.1 w3.heap.size G t w10 H10.out.2)
 have HHD := Aside0.mk (heldIns_any rs.length HLEN.out.1 G t)
 rw [← hmv] at HMI HHD
 have b3 : decide (mv < 0) = false := decide_eq_false (by omega)
 have b4 : (mv != mv) = false := by simp
 clear hmv
 go_wp2_with fail
 refine HMI.out.mono ?_
 clear HMI
 rintro e w11 ⟨rfl, hC11, hE11⟩
 have H11 := Aside0.mk (show Below w3.heap.size w3 w11 ∧ (rs.length ≤ t ∧ k39.C w11 G rs.length (markedI 1 rs.length)) from
  ⟨H10.out.1.trans (hE11.below (fun b h => h) H10.out.1.size), hC11⟩)
 clear hC11 hE11
 go_wp2_with fail
 refine (HHD.out w11 H11.out.2).mono ?_
 rintro e w12 ⟨rfl, hb12⟩
 have H12 := Aside0.mk (show Below w3.heap.size w3 w12 ∧ (rs.length ≤ t ∧ k39.C w12 G rs.length (markedI 1 rs.length)) ∧ Below w.heap.size w w12 from
  ⟨H11.out.1.trans (hb12.mono H11.out.1.size), ⟨H11.out.2.1, Kd.C_below H11.out.2.2 hb12⟩, H3.out.2.trans ((H11.out.1.trans (hb12.mono H11.out.1.size)).mono H3.out.2.size)⟩)
 clear hb12
 go_wp2_with fail
 refine (HTO'.out w12 H12.out.2.2).mono ?_
 rintro e w13 ⟨B13, d13, rfl, hR13, hb13⟩
 have H13 := Aside0.mk (And.intro (R_rd hR13) hb13)
 clear hR13 hb13
 go_wp2_with fail
 refine (HIM.out B13 d13 w13 H13.out.1).mono ?_
 rintro e w14 ⟨I, s, rfl, hR14, hb14⟩
 have H14 := Aside0.mk (show (rs.length ≤ s ∧ k39.C w14 I rs.length rs) ∧ Below w12.heap.size w12 w14 from ⟨R_rd hR14, H13.out.2.trans (hb14.mono H13.out.2.size)⟩)
 clear hR14 hb14
 have HH14 := Aside0.mk (show InsR w14 U y rs from (H3.out.1.below H12.out.1).below H14.out.2)
 go_wp2_with fail
 refine (eqIns_any rs HLEN.out.1 I s U y w14 H14.out.1 HH14.out).mono ?_
 rintro e w15 ⟨rfl, hb15⟩
 have H15 := Aside0.mk (H14.out.2.trans (hb15.mono H14.out.2.size))
 clear hb15 HH14
 go_wp2_with fail
 refine (HHD.out w15 ⟨H12.out.2.1.1, Kd.C_below H12.out.2.1.2 H15.out⟩).mono ?_
 rintro e w16 ⟨rfl, hb16⟩
 have H16 := Aside0.mk (H12.out.2.2.trans ((H15.out.trans (hb16.mono H15.out.size)).mono H12.out.2.2.size))
 clear hb16
 go_wp2
 go_ret
 exact ⟨rfl, H16.out⟩
end Go.Proofs.Ytddnijmgipffeaa.B
