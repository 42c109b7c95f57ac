/- spec.CodeText and impl.CodeText, exactly: each line's bytes, one behind the other. -/
import Derived.Test.YtddnijmgipffeaaDoorLineS2
import Derived.Test.YtddnijmgipffeaaDoorSq
namespace Go.Proofs.YtddnijmgipffeaaDoor.B
open Go Go.RowKit Go.Shelf Go.Lib Go.Proofs.YtddnijmgipffeaaDoorW.PrintWords Go.Proofs.YtddnijmgipffeaaDoorW.PrintLast Go.Proofs.YtddnijmgipffeaaDoorW.PrintMore
set_option linter.unusedVariables false
abbrev CIns := S33
theorem wrap_inC {n : Int} (h0 : -9223372036854775808 ≤ n) (h1 : n ≤ 9223372036854775807) : wrap64 n = n := by unfold wrap64; omega
def insR (x : CIns) : Prop := -9223372036854775808 ≤ x.f1 ∧ x.f1 ≤ 9223372036854775807
def lnB (x : CIns) : List UInt8 := lineL x.f0 x.f1 x.f2.f0 x.f2.f1 ++ [10]
def codeB (l : List CIns) : List UInt8 := l.flatMap lnB
theorem lineL_len (o n k a : Int) (h0 : -9223372036854775808 ≤ n) (h1 : n ≤ 9223372036854775807) : (lineL o n k a).length ≤ 30 := by
  have i := itoa_len n h0 h1
  have j := addrT_len k a
  have u : (wordL n).length ≤ 5 := by unfold wordL; (repeat' split) <;> decide
  unfold lineL
  (repeat' split) <;> first | (simp only [List.length_append, List.length_cons, List.length_nil]; omega) | (simp only [List.length_cons, List.length_nil]; omega) | omega | decide
theorem lnB_len (x : CIns) (h : insR x) : (lnB x).length ≤ 31 := by
  have := lineL_len x.f0 x.f1 x.f2.f0 x.f2.f1 h.1 h.2
  unfold lnB
  simp only [List.length_append, List.length_cons, List.length_nil]
  omega
theorem codeB_len (l : List CIns) (h : ∀ x ∈ l, insR x) : (codeB l).length ≤ 31 * l.length := by
  induction l with
  | nil => simp [codeB]
  | cons x l ih =>
    have h1 := lnB_len x (h x List.mem_cons_self)
    have h2 := ih (fun y hy => h y (List.mem_cons_of_mem _ hy))
    simp only [codeB, List.flatMap_cons, List.length_append, List.length_cons] at h2 ⊢
    omega
theorem codeB_succ (l : List CIns) (j : Nat) (hj : j < l.length) : codeB (l.take (j + 1)) = codeB (l.take j) ++ lnB l[j] := by
  rw [← List.take_append_getElem hj, codeB, List.flatMap_append]
  simp [codeB]
theorem rdC (l : List CIns) (j : Nat) (h : j < l.length) : rd_T33 l (j : Int) = l[j] := by simp [rd_T33, h]
theorem codeS_one (l : List CIns) (j : Nat) (hj : j < l.length) (s t : ByteArray) (hs : s = ⟨(codeB (l.take j)).toArray⟩) (ht : t = ⟨(lineL l[j].f0 l[j].f1 l[j].f2.f0 l[j].f2.f1).toArray⟩) : (s ++ t) ++ (⟨#[10]⟩ : ByteArray) = ⟨(codeB (l.take (j + 1))).toArray⟩ := by
  subst hs ht
  rw [show (⟨#[10]⟩ : ByteArray) = ⟨[(10 : UInt8)].toArray⟩ from rfl, ba_app, ba_app, codeB_succ l j hj, lnB, List.append_assoc]
theorem codeT_one (l : List CIns) (j : Nat) (hj : j < l.length) (s t : ByteArray) (hs : s = ⟨(codeB (l.take j)).toArray⟩) (ht : t = ⟨(lineL l[j].f0 l[j].f1 l[j].f2.f0 l[j].f2.f1).toArray⟩) : s ++ (t ++ (⟨#[10]⟩ : ByteArray)) = ⟨(codeB (l.take (j + 1))).toArray⟩ := by
  subst hs ht
  rw [show (⟨#[10]⟩ : ByteArray) = ⟨[(10 : UInt8)].toArray⟩ from rfl, ba_app, ba_app, codeB_succ l j hj, lnB]
theorem code_size (l : List CIns) (h : ∀ x ∈ l, insR x) (hl : l.length ≤ 1048576) (j : Nat) (s : ByteArray) (hs : s = ⟨(codeB (l.take j)).toArray⟩) : s.size ≤ 40000000 := by
  subst hs
  rw [ba_size]
  have := codeB_len (l.take j) (fun x hx => h x (List.mem_of_mem_take hx))
  simp only [List.length_take] at this
  omega
set_option maxRecDepth 100000 in
set_option maxHeartbeats 8000000 in
theorem codeS_any (l : List CIns) (hr : ∀ x ∈ l, insR x) (hl : l.length ≤ 1048576) (A : Option Addr) (c : Nat) (w : World) (hC : Kd.C k33 w A l.length l) (hc : l.length ≤ c) :
    Calls Tryd.prog 5 #[.slice A l.length c] w fun e w' => e = .returned (.string ⟨(codeB l).toArray⟩) ∧ Below w.heap.size w w' := by
  have HI := Aside0.mk (And.intro hr (And.intro hl (And.intro hC hc)))
  have hu := Tryd.underlying33
  clear hr hl hC hc
  go_enter Tryd.func5, Tryd.ntmps5
  go_wp2
  go_loopg [3, 4] (l.length + 1) (fun kq v3 v4 W => ∃ (j : Nat) (x : Int) (s : ByteArray), v3 = .string s ∧ v4 = .int .i64 x ∧ Aside0 (x = j ∧ j ≤ l.length ∧ s = ⟨(codeB (l.take j)).toArray⟩ ∧ kq + j = l.length + 1 ∧ Below w.heap.size w W))
  case atStart => exact ⟨0, 0, ⟨#[]⟩, rfl, rfl, ⟨rfl, Nat.zero_le _, rfl, rfl, Below.refl _ _⟩⟩
  case round =>
    obtain ⟨j, x, s, rfl, rfl, HR⟩ := hrel
    cases gk with
    | zero => exact absurd HR.out.2.2.2.1 (by have := HR.out.2.1; omega)
    | succ k1 =>
      by_cases hj : j < l.length
      · have hx := HR.out.1
        have b0 : decide (x < (l.length : Int)) = true := decide_eq_true (by omega)
        have b1 : decide (0 ≤ x) = true := decide_eq_true (by omega)
        obtain ⟨ad, ea, x0, x1, x2, x3⟩ := at_T33 HI.out.2.2.1 x (by omega) (by omega)
        cases ea
        have eg : rd_T33 l x = l[j] := by rw [hx]; exact rdC l j hj
        replace x0 := (HR.out.2.2.2.2.cell (World.block_lt_of_cell? w _ x0)).trans x0
        replace x1 := (HR.out.2.2.2.2.cell (World.block_lt_of_cell? w _ x1)).trans x1
        replace x2 := (HR.out.2.2.2.2.cell (World.block_lt_of_cell? w _ x2)).trans x2
        replace x3 := (HR.out.2.2.2.2.cell (World.block_lt_of_cell? w _ x3)).trans x3
        have p0 : (0 ≤ x) = True := eq_true (by omega)
        have p1 : (x < (l.length : Int)) = True := eq_true (by omega)
        rw [eg] at x0 x1 x2 x3
        have hin := HI.out.1 _ (List.getElem_mem hj)
        obtain ⟨y, hy⟩ : ∃ y : CIns, y = l[j] := ⟨_, rfl⟩
        rw [← hy] at x0 x1 x2 x3 hin
        have HJ := Aside0.mk (And.intro hj (And.intro hy hin))
        have hsz := code_size l HI.out.1 HI.out.2.1 j s HR.out.2.2.1
        clear hx hy hin eg
        go_wp2_with fail
        refine (lineS_any y.f0 y.f1 y.f2.f0 y.f2.f1 HJ.out.2.2.1 HJ.out.2.2.2 _).mono ?_
        rintro e w7 ⟨rfl, hb⟩
        have HB := Aside0.mk (HR.out.2.2.2.2.trans (hb.mono HR.out.2.2.2.2.size))
        have zt : (⟨(lineL y.f0 y.f1 y.f2.f0 y.f2.f1).toArray⟩ : ByteArray).size ≤ 30 := by rw [ba_size]; exact lineL_len _ _ _ _ HJ.out.2.2.1 HJ.out.2.2.2
        obtain ⟨t, ht⟩ : ∃ t : ByteArray, t = ⟨(lineL y.f0 y.f1 y.f2.f0 y.f2.f1).toArray⟩ := ⟨_, rfl⟩
        rw [← ht] at zt ⊢
        have HT := Aside0.mk ht
        have c5 : s.size + t.size ≤ 9223372036854775807 := by omega
        have c6 : (s ++ t).size + 1 ≤ 9223372036854775807 := by rw [ByteArray.size_append]; omega
        have c50 := eq_true c5
        have c51 : decide (s.size + t.size ≤ 9223372036854775807) = true := decide_eq_true c5
        have c52 : (9223372036854775807 < s.size + t.size) = False := eq_false (Nat.not_lt.2 c5)
        have c60 := eq_true c6
        have c61 : decide ((s ++ t).size + 1 ≤ 9223372036854775807) = true := decide_eq_true c6
        have c62 : (9223372036854775807 < (s ++ t).size + 1) = False := eq_false (Nat.not_lt.2 c6)
        have c7 : s.size + t.size + 1 ≤ 9223372036854775807 := by omega
        have c70 := eq_true c7
        have c72 : (9223372036854775807 < s.size + t.size + 1) = False := eq_false (Nat.not_lt.2 c7)
        clear hb ht zt hsz x0 x1 x2 x3 c5 c6
        go_wp2_with fail
        go_roundg k1
        case measure => have := HR.out.2.2.2.1; omega
        case rel =>
          refine ⟨j + 1, _, _, rfl, rfl, ⟨?_, ?_, ?_, ?_, HB.out⟩⟩
          · rw [HR.out.1, wrap_inC (by have := HI.out.2.1; have := HJ.out.1; omega) (by have := HI.out.2.1; have := HJ.out.1; omega)]; omega
          · exact HJ.out.1
          · exact codeS_one l j hj s t HR.out.2.2.1 (by rw [HT.out, HJ.out.2.1])
          · have := HR.out.2.2.2.1; omega
      · have hx := HR.out.1
        have b0 : decide (x < (l.length : Int)) = false := decide_eq_false (by omega)
        have hs : s = ⟨(codeB l).toArray⟩ := by
          rw [HR.out.2.2.1, List.take_of_length_le (by omega)]
        have HS := Aside0.mk hs
        clear hx hj hs
        go_wp2_with fail
        go_ret
        exact ⟨by rw [HS.out]; rfl, HR.out.2.2.2.2⟩
set_option maxRecDepth 100000 in
set_option maxHeartbeats 8000000 in
theorem codeT_any (l : List CIns) (hr : ∀ x ∈ l, insR x) (hl : l.length ≤ 1048576) (A : Option Addr) (c : Nat) (w : World) (HT : TabT w) (hC : Kd.C k33 w A l.length l) (hc : l.length ≤ c) :
    Calls Tryd.prog 7 #[.slice A l.length c] w fun e w' => e = .returned (.string ⟨(codeB l).toArray⟩) ∧ Below w.heap.size w w' := by
  have HI := Aside0.mk (And.intro hr (And.intro hl (And.intro hC (And.intro hc HT))))
  have hu := Tryd.underlying33
  clear hr hl hC hc HT
  go_enter Tryd.func7, Tryd.ntmps7
  go_wp2
  go_loopg [3, 8] (l.length + 1) (fun kq v3 v4 W => ∃ (j : Nat) (x : Int) (s : ByteArray), v3 = .string s ∧ v4 = .int .i64 x ∧ Aside0 (x = j ∧ j ≤ l.length ∧ s = ⟨(codeB (l.take j)).toArray⟩ ∧ kq + j = l.length + 1 ∧ Below w.heap.size w W))
  case atStart => exact ⟨0, 0, ⟨#[]⟩, rfl, rfl, ⟨rfl, Nat.zero_le _, rfl, rfl, Below.refl _ _⟩⟩
  case round =>
    obtain ⟨j, x, s, rfl, rfl, HR⟩ := hrel
    cases gk with
    | zero => exact absurd HR.out.2.2.2.1 (by have := HR.out.2.1; omega)
    | succ k1 =>
      by_cases hj : j < l.length
      · have hx := HR.out.1
        have b0 : decide (x < (l.length : Int)) = true := decide_eq_true (by omega)
        have b1 : decide (0 ≤ x) = true := decide_eq_true (by omega)
        obtain ⟨ad, ea, x0, x1, x2, x3⟩ := at_T33 HI.out.2.2.1 x (by omega) (by omega)
        cases ea
        have eg : rd_T33 l x = l[j] := by rw [hx]; exact rdC l j hj
        replace x0 := (HR.out.2.2.2.2.cell (World.block_lt_of_cell? w _ x0)).trans x0
        replace x1 := (HR.out.2.2.2.2.cell (World.block_lt_of_cell? w _ x1)).trans x1
        replace x2 := (HR.out.2.2.2.2.cell (World.block_lt_of_cell? w _ x2)).trans x2
        replace x3 := (HR.out.2.2.2.2.cell (World.block_lt_of_cell? w _ x3)).trans x3
        have p0 : (0 ≤ x) = True := eq_true (by omega)
        have p1 : (x < (l.length : Int)) = True := eq_true (by omega)
        rw [eg] at x0 x1 x2 x3
        have hin := HI.out.1 _ (List.getElem_mem hj)
        obtain ⟨y, hy⟩ : ∃ y : CIns, y = l[j] := ⟨_, rfl⟩
        rw [← hy] at x0 x1 x2 x3 hin
        have HJ := Aside0.mk (And.intro hj (And.intro hy hin))
        have hsz := code_size l HI.out.1 HI.out.2.1 j s HR.out.2.2.1
        clear hx hy hin eg
        go_wp2_with fail
        refine (lineT_any y.f0 y.f1 y.f2.f0 y.f2.f1 HJ.out.2.2.1 HJ.out.2.2.2 _ (HI.out.2.2.2.2.below (HR.out.2.2.2.2.alloc HR.out.2.2.2.2.size _))).mono ?_
        rintro e w7 ⟨rfl, hb⟩
        have hA : Below w.heap.size w _ := HR.out.2.2.2.2.alloc HR.out.2.2.2.2.size (.cells #[.int .i64 y.f0, .int .i64 y.f1, .int .i64 y.f2.f0, .int .i64 y.f2.f1] 33 (0, 0))
        have HB := Aside0.mk (hA.trans (hb.mono hA.size))
        have zt : (⟨(lineL y.f0 y.f1 y.f2.f0 y.f2.f1).toArray⟩ : ByteArray).size ≤ 30 := by rw [ba_size]; exact lineL_len _ _ _ _ HJ.out.2.2.1 HJ.out.2.2.2
        obtain ⟨t, ht⟩ : ∃ t : ByteArray, t = ⟨(lineL y.f0 y.f1 y.f2.f0 y.f2.f1).toArray⟩ := ⟨_, rfl⟩
        rw [← ht] at zt ⊢
        have HT := Aside0.mk ht
        have c5 : t.size + 1 ≤ 9223372036854775807 := by omega
        have c6 : s.size + (t ++ (⟨#[10]⟩ : ByteArray)).size ≤ 9223372036854775807 := by rw [ByteArray.size_append]; simp only [ByteArray.size, List.size_toArray, List.length_cons, List.length_nil] at *; omega
        have c50 := eq_true c5
        have c51 : decide (t.size + 1 ≤ 9223372036854775807) = true := decide_eq_true c5
        have c52 : (9223372036854775807 < t.size + 1) = False := eq_false (Nat.not_lt.2 c5)
        have c60 := eq_true c6
        have c61 : decide (s.size + (t ++ (⟨#[10]⟩ : ByteArray)).size ≤ 9223372036854775807) = true := decide_eq_true c6
        have c62 : (9223372036854775807 < s.size + (t ++ (⟨#[10]⟩ : ByteArray)).size) = False := eq_false (Nat.not_lt.2 c6)
        have c7 : s.size + (t.size + 1) ≤ 9223372036854775807 := by omega
        have c70 := eq_true c7
        have c72 : (9223372036854775807 < s.size + (t.size + 1)) = False := eq_false (Nat.not_lt.2 c7)
        clear hb ht zt hsz x0 x1 x2 x3 c5 c6 hA
        go_wp2_with fail
        go_roundg k1
        case measure => have := HR.out.2.2.2.1; omega
        case rel =>
          refine ⟨j + 1, _, _, rfl, rfl, ⟨?_, ?_, ?_, ?_, HB.out⟩⟩
          · rw [HR.out.1, wrap_inC (by have := HI.out.2.1; have := HJ.out.1; omega) (by have := HI.out.2.1; have := HJ.out.1; omega)]; omega
          · exact HJ.out.1
          · exact codeT_one l j hj s t HR.out.2.2.1 (by rw [HT.out, HJ.out.2.1])
          · have := HR.out.2.2.2.1; omega
      · have hx := HR.out.1
        have b0 : decide (x < (l.length : Int)) = false := decide_eq_false (by omega)
        have hs : s = ⟨(codeB l).toArray⟩ := by
          rw [HR.out.2.2.1, List.take_of_length_le (by omega)]
        have HS := Aside0.mk hs
        clear hx hj hs
        go_wp2_with fail
        go_ret
        exact ⟨by rw [HS.out]; rfl, HR.out.2.2.2.2⟩
end Go.Proofs.YtddnijmgipffeaaDoor.B
