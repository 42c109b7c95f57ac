/- The law FnExactCodeText, where the library's table is told. -/
import Derived.Test.YtddnijmgipffeaaDoorCodeText
import Derived.Test.YtddnijmgipffeaaDoorOpensIns
import Derived.Test.YtddnijmgipffeaaDoorEnds
import Derived.Test.YtddnijmgipffeaaDoorF4
import Derived.Test.YtddnijmgipffeaaDoorF6
import Derived.Test.YtddnijmgipffeaaDoorF8
namespace Go.Proofs.YtddnijmgipffeaaDoor.B
open Go Go.RowKit Go.Shelf Go.Lib Go.Proofs.YtddnijmgipffeaaDoorW.PrintWords Go.Proofs.YtddnijmgipffeaaDoorW.PrintLast Go.Proofs.YtddnijmgipffeaaDoorW.PrintMore
set_option linter.unusedVariables false
def insTo (x : LInsC) : CIns := ⟨x.f0, x.f1, ⟨x.f2.f0, x.f2.f1⟩⟩
theorem rdLI (l : List LInsC) (j : Nat) (h : j < l.length) : rd_T37 l (j : Int) = l[j] := by simp [rd_T37, h]
theorem toIns_is (l : List LInsC) (hl : l.length ≤ 1048576) : Ends (fun k => laws_toInsS.f k l) (l.map insTo) := by
  have h := to_loop (l0 := laws_toInsS.l0) (g := fun _ x => laws_toIns.f x.f0 x.f1 x.f2.f0 x.f2.f1) (mk := fun bt => (⟨bt.1, bt.2.1, ⟨bt.2.2.1, bt.2.2.2⟩⟩ : CIns)) (t := fun x => (x.f0, x.f1, x.f2.f0, x.f2.f1)) rdLI
    (fun k xs ys j => by rw [laws_toInsS.l0]) l (by omega) (fun x _ => Ends.const fun k => by rw [laws_toIns.f, laws_toAddr.f]; rfl) l.length 0 (List.replicate l.length z33) (by omega) (by simp) (by simp)
  refine h.of fun k => ?_
  rw [laws_toInsS.f, if_pos (by omega), if_pos (by simp; omega)]
  rfl
theorem eqC_is (l : List CIns) (hl : l.length ≤ 1048576) : Ends (fun k => laws_eqInsS.f k l l) true := by
  have : Ends (fun k => laws_eqInsS.l0 k l l ((0 : Nat) : Int)) true :=
    eq_loop (l0 := laws_eqInsS.l0) (g := fun _ x y => laws_eqIns.f x.f0 x.f1 x.f2.f0 x.f2.f1 y.f0 y.f1 y.f2.f0 y.f2.f1) rdC (fun k xs ys j => by rw [laws_eqInsS.l0]) l (by omega) (fun x _ => Ends.const fun k => by rw [laws_eqIns.f, if_pos rfl, if_pos rfl, laws_eqAddr.f, if_pos rfl, if_pos rfl]; rfl) l.length 0 (by omega)
  exact this.of fun k => by rw [laws_eqInsS.f, if_pos rfl]; rfl
/-- A row that is read. -/
def CodeR (w : World) (U : Option Addr) (y : Nat) (rs : List CIns) : Prop := rs.length ≤ y ∧ k33.C w U rs.length rs
theorem CodeR.below {w w' : World} {U : Option Addr} {y : Nat} {rs : List CIns} (h : CodeR w U y rs) (hb : Below w.heap.size w w') : CodeR w' U y rs := ⟨h.1, Kd.C_below h.2 hb⟩
theorem toIns_any (l : List LInsC) (hl : l.length ≤ 1048576) (A : Option Addr) (c : Nat) (W : World) (g : k37.C W A l.length l) (hc : l.length ≤ c) :
    Calls Tryd.prog 6 #[.slice A l.length c] W fun e W' => ∃ B d, e = .returned (.slice B (l.map insTo).length d) ∧ CodeR W' B d (l.map insTo) ∧ Below W.heap.size W W' := by
  obtain ⟨K, hK⟩ := toIns_is l hl
  refine (laws_toInsS.calls K A c l (l.map insTo) W g hc (hK K (Nat.le_refl _))).mono ?_
  rintro e W' ⟨v, rfl, h1, hb⟩
  obtain ⟨B, d, rfl⟩ := Kd.R_slice h1
  obtain ⟨A', c', he, hl', hC⟩ := Kd.R_reads h1
  injection he with e1 e2 e3
  subst e1 e3
  exact ⟨B, d, rfl, ⟨hl', hC⟩, hb⟩
theorem eqC_any (rs : List CIns) (hr : rs.length ≤ 1048576) (U : Option Addr) (y : Nat) (G : Option Addr) (t : Nat) (W : World) (g : CodeR W U y rs) (h : CodeR W G t rs) :
    Calls Tryd.prog 8 #[.slice U rs.length y, .slice G rs.length t] W fun e W' => e = .returned (.bool true) ∧ Below W.heap.size W W' := by
  obtain ⟨K, hK⟩ := eqC_is rs hr
  exact laws_eqInsS.calls K U y rs G t rs true W g.2 g.1 h.2 h.1 (hK K (Nat.le_refl _))
set_option maxRecDepth 100000 in
set_option maxHeartbeats 8000000 in
theorem law_CodeText (l : List LInsC) (A : Option Addr) (c : Nat) (w : World) (g0 : kInsR.C w A l.length l) (hl : l.length ≤ c) (HT : TabT w) :
    Calls Tryd.prog 3 #[.slice A l.length c] w fun e w' => e = .returned (.bool true) ∧ Below w.heap.size w w' := by
  obtain ⟨g, hr⟩ := insR_C g0
  have hm : (l.length : Int) ≤ 9223372036854775807 := by have h1 := g.1; have h2 := g.2.1; omega
  have HSZ := Aside0.mk (fun r hr => laws_szInsS.calls A c l 1048576 r w g hl hr)
  have HT := Aside0.mk HT
  by_cases hn : l.length ≤ 1048576
  rotate_left
  · have hs := HSZ.out (-1) (by rw [laws_szInsS.f, wrap_in (by omega) (by omega), if_pos (by omega)])
    have HS := Aside0.mk hs
    clear g g0 hl hr hm hn hs HSZ
    go_enter Tryd.func3, Tryd.ntmps3
    go_wp2_with fail
    refine HS.out.mono ?_
    rintro e w1 ⟨rfl, hB1⟩
    have HB := Aside0.mk hB1
    clear hB1 HS
    go_wp2
    go_ret
    exact ⟨rfl, HB.out.below⟩
  have hs := HSZ.out (1048576 - l.length) (by rw [laws_szInsS.f, wrap_in (by omega) (by omega), if_neg (by omega)])
  obtain ⟨r, hr'⟩ : ∃ r : Int, r = 1048576 - l.length := ⟨_, rfl⟩
  rw [← hr'] at hs
  have b1 : decide (r < 0) = false := decide_eq_false (by omega)
  have HS := Aside0.mk hs
  have HTO := Aside0.mk (fun (W : World) (hW : Below w.heap.size w W) => toIns_any l hn A c W (Kd.C_below g hW) hl)
  obtain ⟨L, hL⟩ : ∃ L, L = l.map insTo := ⟨_, rfl⟩
  have hLl : L.length ≤ 1048576 := by rw [hL, List.length_map]; exact hn
  have hLr : ∀ x ∈ L, insR x := by
    intro x hx
    rw [hL] at hx
    obtain ⟨y, hy, rfl⟩ := List.mem_map.1 hx
    exact hr y hy
  rw [← hL] at HTO
  have HL := Aside0.mk (And.intro hLl hLr)
  clear g g0 hl hr hm hn hs HSZ hr' hL hLl hLr
  go_enter Tryd.func3, Tryd.ntmps3
  go_wp2_with fail
  refine HS.out.mono ?_
  rintro e w1 ⟨rfl, hD1⟩
  have HB1 := Aside0.mk hD1.below
  clear hD1
  go_wp2_with fail
  refine (HTO.out w1 HB1.out).mono ?_
  rintro e w2 ⟨B2, d2, rfl, h2, hb2⟩
  have H2 := Aside0.mk (And.intro h2 (HB1.out.trans (hb2.mono HB1.out.size)))
  clear h2 hb2
  go_wp2_with fail
  refine (codeS_any L HL.out.2 HL.out.1 B2 d2 w2 H2.out.1.2 H2.out.1.1).mono ?_
  rintro e w3 ⟨rfl, hb3⟩
  have H3 := Aside0.mk (H2.out.2.trans (hb3.mono H2.out.2.size))
  obtain ⟨s, hs⟩ : ∃ s : ByteArray, s = ⟨(codeB L).toArray⟩ := ⟨_, rfl⟩
  rw [← hs]
  have HSS := Aside0.mk hs
  clear hb3 hs
  go_wp2_with fail
  refine (HTO.out w3 H3.out).mono ?_
  rintro e w4 ⟨B4, d4, rfl, h4, hb4⟩
  have H4 := Aside0.mk (And.intro h4 (H3.out.trans (hb4.mono H3.out.size)))
  clear h4 hb4
  go_wp2_with fail
  refine (codeT_any L HL.out.2 HL.out.1 B4 d4 w4 (HT.out.below H4.out.2) H4.out.1.2 H4.out.1.1).mono ?_
  rintro e w5 ⟨rfl, hb5⟩
  rw [← HSS.out]
  have H5 := Aside0.mk (show CodeR w5 B4 d4 L ∧ Below w.heap.size w w5 from ⟨H4.out.1.below hb5, H4.out.2.trans (hb5.mono H4.out.2.size)⟩)
  clear hb5
  go_wp2_with fail
  refine (HTO.out w5 H5.out.2).mono ?_
  rintro e w6 ⟨B6, d6, rfl, h6, hb6⟩
  have H6 := Aside0.mk (show CodeR w6 B6 d6 L ∧ CodeR w6 B4 d4 L ∧ Below w.heap.size w w6 from ⟨h6, H5.out.1.below hb6, H5.out.2.trans (hb6.mono H5.out.2.size)⟩)
  clear h6 hb6
  go_wp2_with fail
  refine (eqC_any L HL.out.1 B4 d4 B6 d6 w6 H6.out.2.1 H6.out.1).mono ?_
  rintro e w7 ⟨rfl, hb7⟩
  have H7 := Aside0.mk (H6.out.2.2.trans (hb7.mono H6.out.2.2.size))
  clear hb7
  go_wp2
  go_ret
  exact ⟨rfl, H7.out⟩
end Go.Proofs.YtddnijmgipffeaaDoor.B
