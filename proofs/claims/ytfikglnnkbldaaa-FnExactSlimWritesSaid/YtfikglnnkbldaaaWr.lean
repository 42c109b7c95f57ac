import Derived.Test.YtfikglnnkbldaaaB0
import Derived.Outline
import Derived.Shelf.Abstract
import Derived.Test.YtfikglnnkbldaaaStmtsOk
import Derived.Test.YtfikglnnkbldaaaEndsSt
import Derived.Test.YtfikglnnkbldaaaPkD
/- slices.ContainsFunc over rows of impl.Stmt, at any function value. -/
namespace Go.Proofs.Ytfikglnnkbldaaa.B
open Go.RowKit Go.Shelf Go.Proofs.YtfikglnnkbldaaaW.PrintWords Go.Proofs.YtfikglnnkbldaaaW.PrintLast Go.Proofs.YtfikglnnkbldaaaW.PrintMore
set_option linter.unusedVariables false

/-- What a function value says of an element, in every world behind w0. -/
def PrSt (f : Nat) (cap : Array Value) (p : S64 → Bool) (w0 : World) (l : List S64) : Prop := ∀ (x : S64) (A7 : Option Addr) (c7 : Nat) (A8 : Option Addr) (c8 : Nat) (A9 : Option Addr) (c9 : Nat) (w : World), x ∈ l → Below w0.heap.size w0 w → Kd.C k39 w A7 x.f2.f3.length x.f2.f3 → x.f2.f3.length ≤ c7 → Kd.C k64 w A8 x.f3.length x.f3 → x.f3.length ≤ c8 → Kd.C k64 w A9 x.f4.length x.f4 → x.f4.length ≤ c9 → Calls Try.prog f (#[.agg #[.int .i64 x.f0, .int .i64 x.f1.f0, .int .i64 x.f1.f1, .int .i64 x.f2.f0, .int .i64 x.f2.f1, .int .i64 x.f2.f2.f0, .int .i64 x.f2.f2.f1, .slice A7 x.f2.f3.length c7, .slice A8 x.f3.length c8, .slice A9 x.f4.length c9]] ++ cap) w fun e w' => e = .returned (.bool (p x)) ∧ Below w.heap.size w w'
set_option maxRecDepth 100000 in
set_option maxHeartbeats 4000000 in
theorem indexFuncSt_any (f : Nat) (cap : Array Value) (p : S64 → Bool) (he : ∀ args w, (callFunc f args).run Try.prog w = .ok (.enter f args) w) (l : List S64) (A : Option Addr) (c : Nat) (w : World) (hf : PrSt f cap p w l) (hC : Kd.C k64 w A l.length l) (hc : l.length ≤ c) :
    Calls Try.prog 80 #[.slice A l.length c, .func (.func f) #[] cap] w fun e w' => (∃ r : Int, decide (0 ≤ r) = l.any p ∧ e = .returned (.int .i64 r)) ∧ Below w.heap.size w w' := by
  have hmax : l.length ≤ 9223372036854775807 := hC.2.1
  have HFC := Aside0.mk (And.intro hf hC)
  clear hf hC
  go_enter Try.func80, Try.ntmps80
  go_wp2
  go_loopw [5, 8] (fun _ i wr => ∃ (j : Nat), i = .int .i64 j ∧ Aside0 (j ≤ l.length ∧ (l.take j).any p = false ∧ Below w.heap.size w wr)) (fun _ i _ => l.length - (intOf i).toNat)
  case atStart => exact ⟨0, rfl, ⟨Nat.zero_le _, by simp, Below.refl _ _⟩⟩
  case round =>
    obtain ⟨j, rfl, HR⟩ := hrel
    by_cases hj : j < l.length
    · obtain ⟨ad, A7, c7, A8, c8, A9, c9, hA, e0, e1, e2, e3, e4, e5, e6, e7, e8, e9, hl7, hi7, hl8, hi8, hl9, hi9⟩ := at_T64 HFC.out.2 (j : Int) (by omega) (by omega)
      cases hA
      have hkid : rd_T64 l (j : Int) = l[j] := by simp [rd_T64, hj]
      have hb := HR.out.2.2
      replace e0 := (hb.cell (World.block_lt_of_cell? w _ e0)).trans e0
      replace e1 := (hb.cell (World.block_lt_of_cell? w _ e1)).trans e1
      replace e2 := (hb.cell (World.block_lt_of_cell? w _ e2)).trans e2
      replace e3 := (hb.cell (World.block_lt_of_cell? w _ e3)).trans e3
      replace e4 := (hb.cell (World.block_lt_of_cell? w _ e4)).trans e4
      replace e5 := (hb.cell (World.block_lt_of_cell? w _ e5)).trans e5
      replace e6 := (hb.cell (World.block_lt_of_cell? w _ e6)).trans e6
      replace e7 := (hb.cell (World.block_lt_of_cell? w _ e7)).trans e7
      replace e8 := (hb.cell (World.block_lt_of_cell? w _ e8)).trans e8
      replace e9 := (hb.cell (World.block_lt_of_cell? w _ e9)).trans e9
      rw [hkid] at e0 e1 e2 e3 e4 e5 e6 e7 e8 e9 hl7 hi7 hl8 hi8 hl9 hi9
      simp only [Int.toNat_natCast] at e0 e1 e2 e3 e4 e5 e6 e7 e8 e9
      obtain ⟨x, hx⟩ : ∃ x, x = l[j] := ⟨_, rfl⟩
      rw [← hx] at e0 e1 e2 e3 e4 e5 e6 e7 e8 e9 hl7 hi7 hl8 hi8 hl9 hi9
      have HC := Aside0.mk (HFC.out.1 x A7 c7 A8 c8 A9 c9 wr (by rw [hx]; exact List.getElem_mem hj) hb (Kd.C_below hi7 hb) hl7 (Kd.C_below hi8 hb) hl8 (Kd.C_below hi9 hb) hl9)
      have HX := Aside0.mk (And.intro hx hmax)
      have HJ := Aside0.mk hj
      clear hb hx hkid hl7 hi7 hl8 hi8 hl9 hi9
      go_wp2_with fail
      refine HC.out.mono ?_
      clear HC
      rintro e w1 ⟨rfl, hb1⟩
      have HB := Aside0.mk (HR.out.2.2.trans (hb1.mono HR.out.2.2.size))
      clear hb1
      cases hp : p x with
      | true =>
        have HP := Aside0.mk hp; clear hp
        go_wp2
        go_ret
        refine ⟨⟨j, ?_, rfl⟩, HB.out⟩
        have : l.any p = true := List.any_eq_true.2 ⟨l[j], List.getElem_mem HJ.out, by rw [← HX.out.1]; exact HP.out⟩
        rw [this]; simp
      | false =>
        have HP := Aside0.mk hp; clear hp
        go_wp2
        go_roundw
        case rel => exact ⟨j + 1, by go_num, ⟨HJ.out, by rw [List.take_succ_eq_append_getElem HJ.out, List.any_append, HR.out.2.1]; simp [← HX.out.1, HP.out], HB.out⟩⟩
        case measure => have := HJ.out; simp [intOf]; omega
    · have hjl : j = l.length := by have := HR.out.1; omega
      have hn := HR.out.2.1
      rw [hjl, List.take_of_length_le (Nat.le_refl _)] at hn
      have HN := Aside0.mk hn; clear hn hjl
      go_wp2
      go_ret
      exact ⟨⟨-1, by rw [HN.out]; rfl, rfl⟩, HR.out.2.2⟩
set_option maxRecDepth 100000 in
theorem containsFuncSt_any (f : Nat) (cap : Array Value) (p : S64 → Bool) (he : ∀ args w, (callFunc f args).run Try.prog w = .ok (.enter f args) w) (l : List S64) (A : Option Addr) (c : Nat) (w : World) (hf : PrSt f cap p w l) (hC : Kd.C k64 w A l.length l) (hc : l.length ≤ c) :
    Calls Try.prog 55 #[.slice A l.length c, .func (.func f) #[] cap] w fun e w' => e = .returned (.bool (l.any p)) ∧ Below w.heap.size w w' := by
  have HC := Aside0.mk (indexFuncSt_any f cap p he l A c w hf hC hc)
  clear hC hc hf
  go_enter Try.func55, Try.ntmps55
  go_wp2_with fail
  refine HC.out.mono ?_
  clear HC
  rintro e w1 ⟨⟨r, hr, rfl⟩, hb1⟩
  have HB := Aside0.mk (And.intro hr hb1)
  clear hr hb1
  go_wp2
  go_ret
  exact ⟨by rw [← HB.out.1]; rfl, HB.out.2⟩
end Go.Proofs.Ytfikglnnkbldaaa.B
/- impl.writes: whether a place is set. -/
namespace Go.Proofs.Ytfikglnnkbldaaa.B
open Go.RowKit Go.Shelf Go.Proofs.YtfikglnnkbldaaaW.PrintWords Go.Proofs.YtfikglnnkbldaaaW.PrintLast Go.Proofs.YtfikglnnkbldaaaW.PrintMore
set_option linter.unusedVariables false
attribute [local go_sem high] eqA33

def wrSt (a b : Int) : ISt → Bool
  | ⟨k, t, _, l, l'⟩ => (k == 1 && (t.f0 == a && (t.f1 == b))) || ((l.attach.any fun x => wrSt a b x.1) || (l'.attach.any fun x => wrSt a b x.1))
termination_by e => SizeOf.sizeOf e
decreasing_by all_goals (have := List.sizeOf_lt_of_mem x.2; simp; omega)
theorem wrSt_eq (a b : Int) (s : ISt) : wrSt a b s = ((s.f0 == 1 && (s.f1.f0 == a && (s.f1.f1 == b))) || (s.f3.any (wrSt a b) || s.f4.any (wrSt a b))) := by
  cases s with
  | mk k t e l l' => rw [wrSt]; simp
def WrCon (l : List ISt) : Prop := ∀ (A : Option Addr) (c : Nat) (a b : Int) (w : World), Kd.C k64 w A l.length l → l.length ≤ c →
  Calls Try.prog 35 #[.slice A l.length c, .agg #[.int .i64 a, .int .i64 b]] w fun e w' => e = .returned (.bool (l.any (wrSt a b))) ∧ Below w.heap.size w w'
set_option maxRecDepth 100000 in
set_option maxHeartbeats 4000000 in
theorem wrClos (x : ISt) (h3 : WrCon x.f3) (h4 : WrCon x.f4) (A7 : Option Addr) (c7 : Nat) (A8 : Option Addr) (c8 : Nat) (A9 : Option Addr) (c9 : Nat) (a b : Int) (g : Nat) (w : World) (hg : w.heap[g]? = some (.cells #[.int .i64 a, .int .i64 b] 33 (0, 0)))
    (h8 : Kd.C k64 w A8 x.f3.length x.f3) (l8 : x.f3.length ≤ c8) (h9 : Kd.C k64 w A9 x.f4.length x.f4) (l9 : x.f4.length ≤ c9) :
    Calls Try.prog 56 #[.agg (stCells x A7 c7 A8 c8 A9 c9), .pointer (some ⟨g, 0, none⟩)] w fun e w' => e = .returned (.bool (wrSt a b x)) ∧ Below w.heap.size w w' := by
  have HC := Aside0.mk (And.intro h8 (And.intro l8 (And.intro h9 l9)))
  have HK := Aside0.mk (And.intro h3 h4)
  have HE := Aside0.mk (wrSt_eq a b x)
  have HG := Aside0.mk hg
  clear h8 l8 h9 l9 h3 h4 hg
  unfold stCells
  go_enter Try.func56, Try.ntmps56
  go_upto_region 1 with (fail)
  have j1 := heap_alloc_new w (.cells (stCells x A7 c7 A8 c8 A9 c9) 64)
  have hb1 : Below w.heap.size w (w.alloc (.cells (stCells x A7 c7 A8 c8 A9 c9) 64)) := (Below.refl _ _).alloc (Nat.le_refl _) _
  unfold stCells at j1 hb1
  generalize w.alloc (.cells #[.int .i64 x.f0, .int .i64 x.f1.f0, .int .i64 x.f1.f1, .int .i64 x.f2.f0, .int .i64 x.f2.f1, .int .i64 x.f2.f2.f0, .int .i64 x.f2.f2.f1, .slice A7 x.f2.f3.length c7, .slice A8 x.f3.length c8, .slice A9 x.f4.length c9] 64) = W1 at j1 hb1 ⊢
  have g1 := (hb1.block _ (blk_lt HG.out)).trans HG.out
  have q0 : W1.cell? ⟨g, 0, none⟩ = some (.int .i64 a) := (blk_cell g1 0).trans rfl
  have q1 : W1.cell? ⟨g, 1, none⟩ = some (.int .i64 b) := (blk_cell g1 1).trans rfl
  have HW1 := Aside0.mk (And.intro j1 (And.intro g1 hb1))
  clear g1 hb1
  obtain ⟨e0, e1, e2, e3, e4, e5, e6, e7, e8, e9, _⟩ := cel10 j1
  clear j1
  have HCALL3 := Aside0.mk (HK.out.1 A8 c8 a b W1 (Kd.C_below HC.out.1 HW1.out.2.2) HC.out.2.1)
  cases z0 : (x.f0 == 1) with
  | false =>
    have HS := Aside0.mk (show (x.f0 == 1 && (x.f1.f0 == a && (x.f1.f1 == b))) = false by rw [z0]; rfl)
    go_wp2_with fail
    refine HCALL3.out.mono ?_
    clear HCALL3
    rintro e w2 ⟨rfl, hb2⟩
    have j2 := (hb2.block _ (blk_lt HW1.out.1)).trans HW1.out.1
    have g2 := (hb2.block _ (blk_lt HW1.out.2.1)).trans HW1.out.2.1
    have HW2 := Aside0.mk (And.intro j2 (And.intro g2 (HW1.out.2.2.trans (hb2.mono HW1.out.2.2.size))))
    clear q0 q1 e0 e1 e2 e3 e4 e5 e6 e7 e8 e9 hb2
    cases y3 : x.f3.any (wrSt a b) with
    | true =>
      have H3 := Aside0.mk y3; clear y3 j2 g2
      go_wp2
      go_ret
      exact ⟨by rw [HE.out, HS.out, H3.out]; rfl, HW2.out.2.2⟩
    | false =>
      have H3 := Aside0.mk y3; clear y3
      have q0 : w2.cell? ⟨g, 0, none⟩ = some (.int .i64 a) := (blk_cell g2 0).trans rfl
      have q1 : w2.cell? ⟨g, 1, none⟩ = some (.int .i64 b) := (blk_cell g2 1).trans rfl
      obtain ⟨e0, e1, e2, e3, e4, e5, e6, e7, e8, e9, _⟩ := cel10 j2
      clear j2 g2
      have HCALL4 := Aside0.mk (HK.out.2 A9 c9 a b w2 (Kd.C_below HC.out.2.2.1 HW2.out.2.2) HC.out.2.2.2)
      go_wp2_with fail
      refine HCALL4.out.mono ?_
      clear HCALL4
      rintro e w3 ⟨rfl, hb3⟩
      have HB3 := Aside0.mk (HW2.out.2.2.trans (hb3.mono HW2.out.2.2.size))
      clear q0 q1 e0 e1 e2 e3 e4 e5 e6 e7 e8 e9 hb3
      go_wp2
      go_ret
      exact ⟨by rw [HE.out, HS.out, H3.out]; rfl, HB3.out⟩
  | true =>
    cases z1 : (x.f1.f0 == a && (x.f1.f1 == b)) with
    | true =>
      have HS := Aside0.mk (show (x.f0 == 1 && (x.f1.f0 == a && (x.f1.f1 == b))) = true by rw [z0, z1]; rfl)
      go_wp2
      go_ret
      exact ⟨by rw [HE.out, HS.out]; rfl, HW1.out.2.2⟩
    | false =>
      have HS := Aside0.mk (show (x.f0 == 1 && (x.f1.f0 == a && (x.f1.f1 == b))) = false by rw [z0, z1]; rfl)
      go_wp2_with fail
      refine HCALL3.out.mono ?_
      clear HCALL3
      rintro e w2 ⟨rfl, hb2⟩
      have j2 := (hb2.block _ (blk_lt HW1.out.1)).trans HW1.out.1
      have g2 := (hb2.block _ (blk_lt HW1.out.2.1)).trans HW1.out.2.1
      have HW2 := Aside0.mk (And.intro j2 (And.intro g2 (HW1.out.2.2.trans (hb2.mono HW1.out.2.2.size))))
      clear q0 q1 e0 e1 e2 e3 e4 e5 e6 e7 e8 e9 hb2
      cases y3 : x.f3.any (wrSt a b) with
      | true =>
        have H3 := Aside0.mk y3; clear y3 j2 g2
        go_wp2
        go_ret
        exact ⟨by rw [HE.out, HS.out, H3.out]; rfl, HW2.out.2.2⟩
      | false =>
        have H3 := Aside0.mk y3; clear y3
        have q0 : w2.cell? ⟨g, 0, none⟩ = some (.int .i64 a) := (blk_cell g2 0).trans rfl
        have q1 : w2.cell? ⟨g, 1, none⟩ = some (.int .i64 b) := (blk_cell g2 1).trans rfl
        obtain ⟨e0, e1, e2, e3, e4, e5, e6, e7, e8, e9, _⟩ := cel10 j2
        clear j2 g2
        have HCALL4 := Aside0.mk (HK.out.2 A9 c9 a b w2 (Kd.C_below HC.out.2.2.1 HW2.out.2.2) HC.out.2.2.2)
        go_wp2_with fail
        refine HCALL4.out.mono ?_
        clear HCALL4
        rintro e w3 ⟨rfl, hb3⟩
        have HB3 := Aside0.mk (HW2.out.2.2.trans (hb3.mono HW2.out.2.2.size))
        clear q0 q1 e0 e1 e2 e3 e4 e5 e6 e7 e8 e9 hb3
        go_wp2
        go_ret
        exact ⟨by rw [HE.out, HS.out, H3.out]; rfl, HB3.out⟩
set_option maxRecDepth 100000 in
set_option maxHeartbeats 4000000 in
theorem wr_of (l : List ISt) (ih : ∀ x ∈ l, WrCon x.f3 ∧ WrCon x.f4) : WrCon l := by
  intro A c a b w hC hc
  have hbox : (w.alloc (.cells #[.int .i64 a, .int .i64 b] 33)).heap[w.heap.size]? = some (.cells #[.int .i64 a, .int .i64 b] 33 (0, 0)) := World.alloc_heap_new w _
  have hb0 : Below w.heap.size w (w.alloc (.cells #[.int .i64 a, .int .i64 b] 33)) := (Below.refl _ _).alloc (Nat.le_refl _) _
  have HCALL := Aside0.mk (containsFuncSt_any 56 #[.pointer (some ⟨w.heap.size, 0, none⟩)] (wrSt a b) (enters_of Try.func56 (by kernel_rfl) rfl) l A c (w.alloc (.cells #[.int .i64 a, .int .i64 b] 33))
    (fun x A7 c7 A8 c8 A9 c9 W hx hW g7 l7 g8 l8 g9 l9 => by simpa using wrClos x (ih x hx).1 (ih x hx).2 A7 c7 A8 c8 A9 c9 a b w.heap.size W ((hW.block _ (blk_lt hbox)).trans hbox) g8 l8 g9 l9) (Kd.C_below hC hb0) hc)
  have HB := Aside0.mk hb0
  clear hbox hb0 hC hc ih
  go_enter Try.func35, Try.ntmps35
  go_wp2_with fail
  refine HCALL.out.mono ?_
  rintro e w1 ⟨rfl, hb1⟩
  have HB1 := Aside0.mk (HB.out.trans (hb1.mono HB.out.size))
  clear hb1 HCALL
  go_wp2
  go_ret
  exact ⟨rfl, HB1.out⟩
theorem wr_kids (s : ISt) : WrCon s.f3 ∧ WrCon s.f4 := istInd (P := fun s => WrCon s.f3 ∧ WrCon s.f4) (fun s h3 h4 => ⟨wr_of _ h3, wr_of _ h4⟩) s
theorem wr_any (l : List ISt) : WrCon l := wr_of l (fun x _ => wr_kids x)
end Go.Proofs.Ytfikglnnkbldaaa.B
/- impl.SlimWrites, over ExprOk's contract. -/
namespace Go.Proofs.Ytfikglnnkbldaaa.B
open Go.RowKit Go.Shelf Go.Proofs.YtfikglnnkbldaaaW.PrintWords Go.Proofs.YtfikglnnkbldaaaW.PrintLast Go.Proofs.YtfikglnnkbldaaaW.PrintMore
set_option linter.unusedVariables false
set_option maxRecDepth 100000 in
set_option maxHeartbeats 4000000 in
theorem slimWr_of (hok : OkCon) (A : Option Addr) (c : Nat) (l : List ISt) (a b : Int) (w : World) (hC : Kd.C k64 w A l.length l) (hc : l.length ≤ c) :
    Calls Try.prog 16 #[.slice A l.length c, .agg #[.int .i64 a, .int .i64 b]] w fun e w' => e = .returned (.bool ((countL 4 l 0).1 && l.any (wrSt a b))) ∧ Below w.heap.size w w' := by
  have hbox : (w.alloc (.cells #[.int .i64 a, .int .i64 b] 33)).heap[w.heap.size]? = some (.cells #[.int .i64 a, .int .i64 b] 33 (0, 0)) := World.alloc_heap_new w _
  have hb0 : Below w.heap.size w (w.alloc (.cells #[.int .i64 a, .int .i64 b] 33)) := (Below.refl _ _).alloc (Nat.le_refl _) _
  have HCALL := Aside0.mk (stmtsOk_of hok A c l (w.alloc (.cells #[.int .i64 a, .int .i64 b] 33)) (Kd.C_below hC hb0) hc)
  have HC := Aside0.mk (And.intro hC hc)
  have HX := Aside0.mk (And.intro hbox hb0)
  clear hbox hb0 hC hc hok
  go_enter Try.func16, Try.ntmps16
  go_wp2_with fail
  refine HCALL.out.mono ?_
  clear HCALL
  rintro e w1 ⟨rfl, hb1⟩
  have HB := Aside0.mk (HX.out.2.trans (hb1.mono HX.out.2.size))
  have g1 := (hb1.block _ (blk_lt HX.out.1)).trans HX.out.1
  have q0 : w1.cell? ⟨w.heap.size, 0, none⟩ = some (.int .i64 a) := (blk_cell g1 0).trans rfl
  have q1 : w1.cell? ⟨w.heap.size, 1, none⟩ = some (.int .i64 b) := (blk_cell g1 1).trans rfl
  clear hb1 HX g1
  obtain ⟨r, hr⟩ : ∃ r, r = (countL 4 l 0).1 := ⟨_, rfl⟩
  rw [← hr]
  have HR := Aside0.mk hr
  clear hr
  cases r with
  | false =>
    go_wp2
    go_ret
    exact ⟨by rw [← HR.out]; rfl, HB.out⟩
  | true =>
    have HCALL := Aside0.mk (wr_any l A c a b w1 (Kd.C_below HC.out.1 HB.out) HC.out.2)
    go_wp2_with fail
    refine HCALL.out.mono ?_
    clear HCALL
    rintro e w2 ⟨rfl, hb2⟩
    have HB2 := Aside0.mk (HB.out.trans (hb2.mono HB.out.size))
    clear hb2 q0 q1
    go_wp2
    go_ret
    exact ⟨by rw [← HR.out, Bool.true_and]; rfl, HB2.out⟩
end Go.Proofs.Ytfikglnnkbldaaa.B
