/- impl.readMem: a memory is read, if it is ok. -/
import Derived.Test.YtacbbpbopmdpeaaFuncs
import Derived.StillTailTactics
namespace Go.Proofs.Ytacbbpbopmdpeaa.B
open Go.RowKit Go.Proofs.YtacbbpbopmdpeaaW.PrintWords Go.Proofs.YtacbbpbopmdpeaaW.PrintLast Go.Proofs.YtacbbpbopmdpeaaW.PrintMore
set_option linter.unusedVariables false

def listOk (l : List Int) : Bool := l.length == 6 && !l.any fun n => !isNumL n
theorem listOk_len {l : List Int} (h : listOk l = true) : l.length = 6 := by
 unfold listOk at h; simp only [Bool.and_eq_true, beq_iff_eq] at h; exact h.1
/-- What the memory holds, when so many lists have been read. -/
def memB (l0 l1 l2 : List Int) : Nat → List Int
 | 0 => List.replicate 18 0
 | 1 => l0 ++ List.replicate 12 0
 | 2 => l0 ++ l1 ++ List.replicate 6 0
 | _ => l0 ++ l1 ++ l2
def okT (l0 l1 l2 : List Int) : Nat → Bool
 | 0 => true
 | 1 => listOk l0
 | 2 => listOk l0 && listOk l1
 | _ => listOk l0 && (listOk l1 && listOk l2)
abbrev iv (l : List Int) : List Value := l.map (Value.int .i64)
theorem iv_len (l : List Int) : (iv l).length = l.length := by simp [iv]
theorem memB_len {l0 l1 l2 : List Int} : ∀ j, okT l0 l1 l2 j = true → (memB l0 l1 l2 j).length = 18
 | 0, _ => rfl
 | 1, h => by have := listOk_len h; simp [memB, this]
 | 2, h => by
  simp only [okT, Bool.and_eq_true] at h
  simp [memB, listOk_len h.1, listOk_len h.2]
 | j + 3, h => by
  simp only [okT, Bool.and_eq_true] at h
  simp [memB, listOk_len h.1, listOk_len h.2.1, listOk_len h.2.2]
theorem six (l : List Int) (h : l.length = 6) : ∃ a0 a1 a2 a3 a4 a5, l = [a0, a1, a2, a3, a4, a5] := by
 match l, h with
 | [a0, a1, a2, a3, a4, a5], _ => exact ⟨a0, a1, a2, a3, a4, a5, rfl⟩
theorem int_at2 {w : World} {A : Option Addr} {l : List Int} (h : Kd.C (Kd.int .i64) w A l.length l) (j : Nat) (hj : j < l.length) : ∃ ad x, A = some ad ∧ l[j]? = some x ∧ w.cell? (ad.add j) = some (.int .i64 x) := by
 obtain ⟨ad, hA, e⟩ := int_at h j hj
 exact ⟨ad, l[j], hA, List.getElem?_eq_getElem hj, e⟩
theorem six_get {l : List Int} {x0 x1 x2 x3 x4 x5 : Int} (h : l.length = 6) (h0 : l[0]? = some x0) (h1 : l[1]? = some x1) (h2 : l[2]? = some x2) (h3 : l[3]? = some x3) (h4 : l[4]? = some x4) (h5 : l[5]? = some x5) : l = [x0, x1, x2, x3, x4, x5] := by
 obtain ⟨a0, a1, a2, a3, a4, a5, rfl⟩ := six l h
 simp at h0 h1 h2 h3 h4 h5
 subst h0 h1 h2 h3 h4 h5
 rfl
theorem memB_put {l0 l1 l2 l : List Int} (j : Nat) (hj : j < 3) (hk : okT l0 l1 l2 j = true) (hl : l.length = 6) (hn : l = if j = 0 then l0 else if j = 1 then l1 else l2) :
  (iv (memB l0 l1 l2 j)).take (j * 6) ++ iv l ++ (iv (memB l0 l1 l2 j)).drop (j * 6 + (iv l).length) = iv (memB l0 l1 l2 (j + 1)) := by
 rw [iv_len, hl]
 have h3 : j = 0 ∨ j = 1 ∨ j = 2 := by omega
 rcases h3 with rfl | rfl | rfl
 ·simp only [if_true] at hn
  subst hn
  simp [memB, iv]
 ·have h0 := listOk_len hk
  simp at hn
  subst hn
  simp only [memB, iv, List.map_append]
  simp [h0, List.drop_append]
 ·simp only [okT, Bool.and_eq_true] at hk
  have h0 := listOk_len hk.1
  have h1 := listOk_len hk.2
  simp at hn
  subst hn
  have e1 : List.take 12 (List.map (Value.int .i64) l0) = List.map (Value.int .i64) l0 := List.take_of_length_le (by simp [h0])
  have e2 : List.drop 18 (List.map (Value.int .i64) l0) = [] := List.drop_eq_nil_of_le (by simp [h0])
  have e3 : List.drop 12 (List.map (Value.int .i64) l1) = [] := List.drop_eq_nil_of_le (by simp [h1])
  simp [memB, iv, h0, h1, List.take_append, List.drop_append, e1, e2, e3]
theorem arrayAt_bank (a : Option Addr) (c : Nat) (W : World) : (Instr.arrayAt 71 (.slice a 6 c)).run Try.prog W = .ok (.pointer a) W := by
 simp [Instr.arrayAt, run_underlying Try.underlying71]
theorem three_blocks' (w : World) (a b c : Obj) : (((w.alloc a).alloc b).alloc c).heap.size = w.heap.size + 1 + 1 + 1 ∧ (((w.alloc a).alloc b).alloc c).heap[w.heap.size]? = some a ∧ (((w.alloc a).alloc b).alloc c).heap[w.heap.size + 1]? = some b ∧ (((w.alloc a).alloc b).alloc c).heap[w.heap.size + 1 + 1]? = some c ∧ Below w.heap.size w (((w.alloc a).alloc b).alloc c) := by
 have s1 : (w.alloc a).heap.size = w.heap.size + 1 := by simp
 have s2 : ((w.alloc a).alloc b).heap.size = w.heap.size + 1 + 1 := by simp
 have s3 : (((w.alloc a).alloc b).alloc c).heap.size = w.heap.size + 1 + 1 + 1 := by simp
 refine ⟨s3, ?_, ?_, ?_, (((Below.refl w.heap.size w).alloc (Nat.le_refl _) _).alloc (by omega) _).alloc (by omega) _⟩
 ·rw [Below.heap_alloc _ _ _ (by omega), Below.heap_alloc _ _ _ (by omega)]; exact heap_alloc_new w a
 ·rw [Below.heap_alloc _ _ _ (by omega), ← s1]; exact heap_alloc_new _ b
 ·rw [← s2]; exact heap_alloc_new _ c

set_option maxRecDepth 100000 in
set_option maxHeartbeats 8000000 in
theorem readMem_any (l0 l1 l2 : List Int) (A0 A1 A2 : Option Addr) (c0 c1 c2 : Nat) (w : World) (h0 : Kd.C (Kd.int .i64) w A0 l0.length l0) (h1 : Kd.C (Kd.int .i64) w A1 l1.length l1) (h2 : Kd.C (Kd.int .i64) w A2 l2.length l2) (m0 : l0.length ≤ c0) (m1 : l1.length ≤ c1) (m2 : l2.length ≤ c2) :
  Calls Try.prog 19 #[.agg #[.slice A0 l0.length c0, .slice A1 l1.length c1, .slice A2 l2.length c2]] w fun e w' =>
   (((listOk l0 && (listOk l1 && listOk l2)) = true ∧ ∃ g, e = .returned (.tuple #[.pointer (some ⟨g, 0, none⟩), .bool true]) ∧ MemAt w' g (l0 ++ l1 ++ l2)) ∨ ((listOk l0 && (listOk l1 && listOk l2)) = false ∧ e = .returned (.tuple #[.pointer none, .bool false]))) ∧ Below w.heap.size w w' := by
 have hnl : Pr 36 (fun n => !isNumL n) := notNum_any
 have hen : ∀ args w, (callFunc 36 args).run Try.prog w = .ok (.enter 36 args) w := enters_of Try.func36 (by kernel_rfl) rfl
 have HC := Aside0.mk (And.intro h0 (And.intro h1 (And.intro h2 (And.intro m0 (And.intro m1 (And.intro m2 (And.intro hnl hen)))))))
 clear h0 h1 h2 m0 m1 m2 hnl hen
 obtain ⟨hs, k1, k2, k3, hB0⟩ := three_blocks' w (.cells #[.slice A0 l0.length c0, .slice A1 l1.length c1, .slice A2 l2.length c2] 30 (0, 0)) (.cells #[.int .i64 0, .int .i64 0, .int .i64 0, .int .i64 0, .int .i64 0, .int .i64 0, .int .i64 0, .int .i64 0, .int .i64 0, .int .i64 0, .int .i64 0, .int .i64 0, .int .i64 0, .int .i64 0, .int .i64 0, .int .i64 0, .int .i64 0, .int .i64 0] 74 (0, 0)) (.cells #[.slice A0 l0.length c0, .slice A1 l1.length c1, .slice A2 l2.length c2] 28 (0, 0))
 have HK := Aside0.mk (And.intro k2 (And.intro k3 hB0))
 clear hs k1 k2 k3 hB0
 go_enter Try.func19, Try.ntmps19
 go_wp2
 generalize ((w.alloc (.cells #[.slice A0 l0.length c0, .slice A1 l1.length c1, .slice A2 l2.length c2] 30)).alloc (.cells #[.int .i64 0, .int .i64 0, .int .i64 0, .int .i64 0, .int .i64 0, .int .i64 0, .int .i64 0, .int .i64 0, .int .i64 0, .int .i64 0, .int .i64 0, .int .i64 0, .int .i64 0, .int .i64 0, .int .i64 0, .int .i64 0, .int .i64 0, .int .i64 0] 74)).alloc (.cells #[.slice A0 l0.length c0, .slice A1 l1.length c1, .slice A2 l2.length c2] 28) = W0 at HK ⊢
 go_loopw [5, 6, 17] (fun _ _ i wr => ∃ (j : Nat), i = .int .i64 j ∧ Aside0 (j ≤ 3 ∧ okT l0 l1 l2 j = true ∧ wr.heap[w.heap.size + 1]? = some (.cells (iv (memB l0 l1 l2 j)).toArray 74 (0, 0)) ∧ wr.heap[w.heap.size + 1 + 1]? = some (.cells #[.slice A0 l0.length c0, .slice A1 l1.length c1, .slice A2 l2.length c2] 28 (0, 0)) ∧ Below w.heap.size w wr)) (fun _ _ i _ => 3 - (intOf i).toNat)
 case atStart => exact ⟨0, rfl, ⟨Nat.zero_le _, rfl, HK.out.1, HK.out.2.1, HK.out.2.2⟩⟩
 case round =>
  obtain ⟨j, rfl, HR⟩ := hrel
  by_cases hj : j < 3
  ·have h3 : j = 0 ∨ j = 1 ∨ j = 2 := by omega
   rcases h3 with rfl | rfl | rfl
   ·have q : wr.cell? ⟨w.heap.size + 1 + 1, 0, none⟩ = some (.slice A0 l0.length c0) := by rw [blk_cell HR.out.2.2.2.1]; rfl
    by_cases h6 : l0.length = 6
    ·have b6 : ((l0.length : Int) != 6) = false := by rw [h6]; rfl
     have hC := Kd.C_below HC.out.1 HR.out.2.2.2.2
     have hcall := containsFunc_any 36 (fun n => !isNumL n) HC.out.2.2.2.2.2.2.1 HC.out.2.2.2.2.2.2.2 l0 A0 c0 wr hC HC.out.2.2.2.1
     obtain ⟨ad, x0, hA, z0, e0⟩ := int_at2 hC 0 (by omega)
     obtain ⟨ad1, x1, hA1, z1, e1⟩ := int_at2 hC 1 (by omega)
     obtain ⟨ad2, x2, hA2, z2, e2⟩ := int_at2 hC 2 (by omega)
     obtain ⟨ad3, x3, hA3, z3, e3⟩ := int_at2 hC 3 (by omega)
     obtain ⟨ad4, x4, hA4, z4, e4⟩ := int_at2 hC 4 (by omega)
     obtain ⟨ad5, x5, hA5, z5, e5⟩ := int_at2 hC 5 (by omega)
     rw [hA] at hA1 hA2 hA3 hA4 hA5
     cases hA1; cases hA2; cases hA3; cases hA4; cases hA5
     simp only [show ad.add 0 = ad by simp [Addr.add], show ad.add 1 = ⟨ad.block, ad.off + 1, none⟩ by simp [Addr.add], show ad.add 2 = ⟨ad.block, ad.off + 2, none⟩ by simp [Addr.add], show ad.add 3 = ⟨ad.block, ad.off + 3, none⟩ by simp [Addr.add], show ad.add 4 = ⟨ad.block, ad.off + 4, none⟩ by simp [Addr.add], show ad.add 5 = ⟨ad.block, ad.off + 5, none⟩ by simp [Addr.add]] at e0 e1 e2 e3 e4 e5
     have hx := six_get h6 z0 z1 z2 z3 z4 z5
     have HD : Aside0 (_ ∧ _ ∧ _) := Aside0.mk (And.intro h6 (And.intro hx (And.intro e0 (And.intro e1 (And.intro e2 (And.intro e3 (And.intro e4 e5)))))))
     rw [h6] at q hcall b6
     rw [hA] at q hcall
     have HF := Aside0.mk hcall
     clear hcall hC hA hx z0 z1 z2 z3 z4 z5 e0 e1 e2 e3 e4 e5
     cases hv : l0.any (fun n => !isNumL n) with
     | true =>
      have HV := Aside0.mk hv; clear hv
      go_wp2_with fail
      refine HF.out.mono ?_
      clear HF
      rintro e w1 ⟨rfl, hb1⟩
      rw [HV.out]
      have HB := Aside0.mk (HR.out.2.2.2.2.trans (hb1.mono HR.out.2.2.2.2.size)); clear hb1
      go_wp2
      go_ret2
      exact ⟨.inr ⟨by unfold listOk; rw [HV.out]; simp, rfl⟩, HB.out⟩
     | false =>
      have HV := Aside0.mk hv; clear hv
      go_wp2_with fail
      refine HF.out.mono ?_
      clear HF
      rintro e w1 ⟨rfl, hb1⟩
      rw [HV.out]
      have hb := hb1
      have e0 := (hb.cell (World.block_lt_of_cell? wr _ HD.out.2.2.1)).trans HD.out.2.2.1
      have e1 := (hb.cell (World.block_lt_of_cell? wr _ HD.out.2.2.2.1)).trans HD.out.2.2.2.1
      have e2 := (hb.cell (World.block_lt_of_cell? wr _ HD.out.2.2.2.2.1)).trans HD.out.2.2.2.2.1
      have e3 := (hb.cell (World.block_lt_of_cell? wr _ HD.out.2.2.2.2.2.1)).trans HD.out.2.2.2.2.2.1
      have e4 := (hb.cell (World.block_lt_of_cell? wr _ HD.out.2.2.2.2.2.2.1)).trans HD.out.2.2.2.2.2.2.1
      have e5 := (hb.cell (World.block_lt_of_cell? wr _ HD.out.2.2.2.2.2.2.2)).trans HD.out.2.2.2.2.2.2.2
      have kb := (hb.block _ (blk_lt HR.out.2.2.1)).trans HR.out.2.2.1
      have kr := (hb.block _ (blk_lt HR.out.2.2.2.1)).trans HR.out.2.2.2.1
      have hB1 : Below w.heap.size w w1 := HR.out.2.2.2.2.trans (hb1.mono HR.out.2.2.2.2.size)
      have hsz : (iv (memB l0 l1 l2 0)).toArray.size = 18 := by rw [List.size_toArray, iv_len]; exact memB_len 0 HR.out.2.1
      obtain ⟨o0, q0⟩ : ∃ o, w1.cell? ⟨w.heap.size + 1, 0, none⟩ = some o := ⟨_, (blk_cell kb 0).trans (Array.getElem?_eq_getElem (by omega))⟩
      have y0 : w1.frozen? ⟨w.heap.size + 1, 0, none⟩ = false := blk_frozen kb 0
      obtain ⟨o1, q1⟩ : ∃ o, w1.cell? ⟨w.heap.size + 1, 1, none⟩ = some o := ⟨_, (blk_cell kb 1).trans (Array.getElem?_eq_getElem (by omega))⟩
      have y1 : w1.frozen? ⟨w.heap.size + 1, 1, none⟩ = false := blk_frozen kb 1
      obtain ⟨o2, q2⟩ : ∃ o, w1.cell? ⟨w.heap.size + 1, 2, none⟩ = some o := ⟨_, (blk_cell kb 2).trans (Array.getElem?_eq_getElem (by omega))⟩
      have y2 : w1.frozen? ⟨w.heap.size + 1, 2, none⟩ = false := blk_frozen kb 2
      obtain ⟨o3, q3⟩ : ∃ o, w1.cell? ⟨w.heap.size + 1, 3, none⟩ = some o := ⟨_, (blk_cell kb 3).trans (Array.getElem?_eq_getElem (by omega))⟩
      have y3 : w1.frozen? ⟨w.heap.size + 1, 3, none⟩ = false := blk_frozen kb 3
      obtain ⟨o4, q4⟩ : ∃ o, w1.cell? ⟨w.heap.size + 1, 4, none⟩ = some o := ⟨_, (blk_cell kb 4).trans (Array.getElem?_eq_getElem (by omega))⟩
      have y4 : w1.frozen? ⟨w.heap.size + 1, 4, none⟩ = false := blk_frozen kb 4
      obtain ⟨o5, q5⟩ : ∃ o, w1.cell? ⟨w.heap.size + 1, 5, none⟩ = some o := ⟨_, (blk_cell kb 5).trans (Array.getElem?_eq_getElem (by omega))⟩
      have y5 : w1.frozen? ⟨w.heap.size + 1, 5, none⟩ = false := blk_frozen kb 5
      obtain ⟨cur, s1, s2, s3⟩ := setCells_row (g := w.heap.size + 1) [.int .i64 x0, .int .i64 x1, .int .i64 x2, .int .i64 x3, .int .i64 x4, .int .i64 x5] (0 * 6) w1 _ kb (by rw [hsz]; simp)
      have s4 : (((((((w1.setCell ⟨w.heap.size + 1, 0, none⟩ (.int .i64 x0)).setCell ⟨w.heap.size + 1, 1, none⟩ (.int .i64 x1)).setCell ⟨w.heap.size + 1, 2, none⟩ (.int .i64 x2)).setCell ⟨w.heap.size + 1, 3, none⟩ (.int .i64 x3)).setCell ⟨w.heap.size + 1, 4, none⟩ (.int .i64 x4)).setCell ⟨w.heap.size + 1, 5, none⟩ (.int .i64 x5)).drew).heap[w.heap.size + 1]? = some (.cells (iv (memB l0 l1 l2 1)).toArray 74 (0, 0)) := by
       have hput := memB_put (l := l0) 0 (by omega) HR.out.2.1 HD.out.1 rfl
       have hcur : cur = (iv (memB l0 l1 l2 1)).toArray := by
        have hiv : iv l0 = [.int .i64 x0, .int .i64 x1, .int .i64 x2, .int .i64 x3, .int .i64 x4, .int .i64 x5] := (congrArg iv HD.out.2.1).trans rfl
        apply Array.toList_inj.1
        rw [hiv] at hput
        rw [← hput]
        exact s3
       rw [← hcur]
       exact blk_drew s1
      have s5 : (((((((w1.setCell ⟨w.heap.size + 1, 0, none⟩ (.int .i64 x0)).setCell ⟨w.heap.size + 1, 1, none⟩ (.int .i64 x1)).setCell ⟨w.heap.size + 1, 2, none⟩ (.int .i64 x2)).setCell ⟨w.heap.size + 1, 3, none⟩ (.int .i64 x3)).setCell ⟨w.heap.size + 1, 4, none⟩ (.int .i64 x4)).setCell ⟨w.heap.size + 1, 5, none⟩ (.int .i64 x5)).drew).heap[w.heap.size + 1 + 1]? = some (.cells #[.slice A0 l0.length c0, .slice A1 l1.length c1, .slice A2 l2.length c2] 28 (0, 0)) := by
       refine blk_drew ?_
       refine blk_far (blk_far (blk_far (blk_far (blk_far (blk_far kr ?_ _) ?_ _) ?_ _) ?_ _) ?_ _) ?_ _ <;> simp
      have s6 : Below w.heap.size w (((((((w1.setCell ⟨w.heap.size + 1, 0, none⟩ (.int .i64 x0)).setCell ⟨w.heap.size + 1, 1, none⟩ (.int .i64 x1)).setCell ⟨w.heap.size + 1, 2, none⟩ (.int .i64 x2)).setCell ⟨w.heap.size + 1, 3, none⟩ (.int .i64 x3)).setCell ⟨w.heap.size + 1, 4, none⟩ (.int .i64 x4)).setCell ⟨w.heap.size + 1, 5, none⟩ (.int .i64 x5)).drew) := below_drew (below_set (below_set (below_set (below_set (below_set (below_set hB1 (by omega)) (by omega)) (by omega)) (by omega)) (by omega)) (by omega))
      have s7 : okT l0 l1 l2 1 = true := by
       have hp := HR.out.2.1
       have hq : listOk l0 = true := by unfold listOk; rw [HD.out.1, HV.out]; rfl
       exact hq
      have HS := Aside0.mk (And.intro s7 (And.intro s4 (And.intro s5 s6)))
      clear s1 s2 s3 s4 s5 s6 s7 hB1 kb kr hb hb1 hsz h6
      go_wp2
      have harr := arrayAt_bank (some ad)
      go_region
      go_wp2
      go_roundw
      case rel => exact ⟨1, by simp, ⟨by omega, HS.out.1, HS.out.2.1, HS.out.2.2.1, HS.out.2.2.2⟩⟩
      case measure => simp [intOf]
    ·have b6 : ((l0.length : Int) != 6) = true := by rw [bne_iff_ne]; omega
     have H6 := Aside0.mk h6; clear h6
     go_wp2
     go_ret2
     exact ⟨.inr ⟨by
      have : listOk l0 = false := by unfold listOk; rw [show (l0.length == 6) = false from beq_false_of_ne H6.out]; rfl
      rw [this]; simp, rfl⟩, HR.out.2.2.2.2⟩
   ·have q : wr.cell? ⟨w.heap.size + 1 + 1, 1, none⟩ = some (.slice A1 l1.length c1) := by rw [blk_cell HR.out.2.2.2.1]; rfl
    by_cases h6 : l1.length = 6
    ·have b6 : ((l1.length : Int) != 6) = false := by rw [h6]; rfl
     have hC := Kd.C_below HC.out.2.1 HR.out.2.2.2.2
     have hcall := containsFunc_any 36 (fun n => !isNumL n) HC.out.2.2.2.2.2.2.1 HC.out.2.2.2.2.2.2.2 l1 A1 c1 wr hC HC.out.2.2.2.2.1
     obtain ⟨ad, x0, hA, z0, e0⟩ := int_at2 hC 0 (by omega)
     obtain ⟨ad1, x1, hA1, z1, e1⟩ := int_at2 hC 1 (by omega)
     obtain ⟨ad2, x2, hA2, z2, e2⟩ := int_at2 hC 2 (by omega)
     obtain ⟨ad3, x3, hA3, z3, e3⟩ := int_at2 hC 3 (by omega)
     obtain ⟨ad4, x4, hA4, z4, e4⟩ := int_at2 hC 4 (by omega)
     obtain ⟨ad5, x5, hA5, z5, e5⟩ := int_at2 hC 5 (by omega)
     rw [hA] at hA1 hA2 hA3 hA4 hA5
     cases hA1; cases hA2; cases hA3; cases hA4; cases hA5
     simp only [show ad.add 0 = ad by simp [Addr.add], show ad.add 1 = ⟨ad.block, ad.off + 1, none⟩ by simp [Addr.add], show ad.add 2 = ⟨ad.block, ad.off + 2, none⟩ by simp [Addr.add], show ad.add 3 = ⟨ad.block, ad.off + 3, none⟩ by simp [Addr.add], show ad.add 4 = ⟨ad.block, ad.off + 4, none⟩ by simp [Addr.add], show ad.add 5 = ⟨ad.block, ad.off + 5, none⟩ by simp [Addr.add]] at e0 e1 e2 e3 e4 e5
     have hx := six_get h6 z0 z1 z2 z3 z4 z5
     have HD : Aside0 (_ ∧ _ ∧ _) := Aside0.mk (And.intro h6 (And.intro hx (And.intro e0 (And.intro e1 (And.intro e2 (And.intro e3 (And.intro e4 e5)))))))
     rw [h6] at q hcall b6
     rw [hA] at q hcall
     have HF := Aside0.mk hcall
     clear hcall hC hA hx z0 z1 z2 z3 z4 z5 e0 e1 e2 e3 e4 e5
     cases hv : l1.any (fun n => !isNumL n) with
     | true =>
      have HV := Aside0.mk hv; clear hv
      go_wp2_with fail
      refine HF.out.mono ?_
      clear HF
      rintro e w1 ⟨rfl, hb1⟩
      rw [HV.out]
      have HB := Aside0.mk (HR.out.2.2.2.2.trans (hb1.mono HR.out.2.2.2.2.size)); clear hb1
      go_wp2
      go_ret2
      exact ⟨.inr ⟨by unfold listOk; rw [HV.out]; simp, rfl⟩, HB.out⟩
     | false =>
      have HV := Aside0.mk hv; clear hv
      go_wp2_with fail
      refine HF.out.mono ?_
      clear HF
      rintro e w1 ⟨rfl, hb1⟩
      rw [HV.out]
      have hb := hb1
      have e0 := (hb.cell (World.block_lt_of_cell? wr _ HD.out.2.2.1)).trans HD.out.2.2.1
      have e1 := (hb.cell (World.block_lt_of_cell? wr _ HD.out.2.2.2.1)).trans HD.out.2.2.2.1
      have e2 := (hb.cell (World.block_lt_of_cell? wr _ HD.out.2.2.2.2.1)).trans HD.out.2.2.2.2.1
      have e3 := (hb.cell (World.block_lt_of_cell? wr _ HD.out.2.2.2.2.2.1)).trans HD.out.2.2.2.2.2.1
      have e4 := (hb.cell (World.block_lt_of_cell? wr _ HD.out.2.2.2.2.2.2.1)).trans HD.out.2.2.2.2.2.2.1
      have e5 := (hb.cell (World.block_lt_of_cell? wr _ HD.out.2.2.2.2.2.2.2)).trans HD.out.2.2.2.2.2.2.2
      have kb := (hb.block _ (blk_lt HR.out.2.2.1)).trans HR.out.2.2.1
      have kr := (hb.block _ (blk_lt HR.out.2.2.2.1)).trans HR.out.2.2.2.1
      have hB1 : Below w.heap.size w w1 := HR.out.2.2.2.2.trans (hb1.mono HR.out.2.2.2.2.size)
      have hsz : (iv (memB l0 l1 l2 1)).toArray.size = 18 := by rw [List.size_toArray, iv_len]; exact memB_len 1 HR.out.2.1
      obtain ⟨o0, q0⟩ : ∃ o, w1.cell? ⟨w.heap.size + 1, 6, none⟩ = some o := ⟨_, (blk_cell kb 6).trans (Array.getElem?_eq_getElem (by omega))⟩
      have y0 : w1.frozen? ⟨w.heap.size + 1, 6, none⟩ = false := blk_frozen kb 6
      obtain ⟨o1, q1⟩ : ∃ o, w1.cell? ⟨w.heap.size + 1, 7, none⟩ = some o := ⟨_, (blk_cell kb 7).trans (Array.getElem?_eq_getElem (by omega))⟩
      have y1 : w1.frozen? ⟨w.heap.size + 1, 7, none⟩ = false := blk_frozen kb 7
      obtain ⟨o2, q2⟩ : ∃ o, w1.cell? ⟨w.heap.size + 1, 8, none⟩ = some o := ⟨_, (blk_cell kb 8).trans (Array.getElem?_eq_getElem (by omega))⟩
      have y2 : w1.frozen? ⟨w.heap.size + 1, 8, none⟩ = false := blk_frozen kb 8
      obtain ⟨o3, q3⟩ : ∃ o, w1.cell? ⟨w.heap.size + 1, 9, none⟩ = some o := ⟨_, (blk_cell kb 9).trans (Array.getElem?_eq_getElem (by omega))⟩
      have y3 : w1.frozen? ⟨w.heap.size + 1, 9, none⟩ = false := blk_frozen kb 9
      obtain ⟨o4, q4⟩ : ∃ o, w1.cell? ⟨w.heap.size + 1, 10, none⟩ = some o := ⟨_, (blk_cell kb 10).trans (Array.getElem?_eq_getElem (by omega))⟩
      have y4 : w1.frozen? ⟨w.heap.size + 1, 10, none⟩ = false := blk_frozen kb 10
      obtain ⟨o5, q5⟩ : ∃ o, w1.cell? ⟨w.heap.size + 1, 11, none⟩ = some o := ⟨_, (blk_cell kb 11).trans (Array.getElem?_eq_getElem (by omega))⟩
      have y5 : w1.frozen? ⟨w.heap.size + 1, 11, none⟩ = false := blk_frozen kb 11
      obtain ⟨cur, s1, s2, s3⟩ := setCells_row (g := w.heap.size + 1) [.int .i64 x0, .int .i64 x1, .int .i64 x2, .int .i64 x3, .int .i64 x4, .int .i64 x5] (1 * 6) w1 _ kb (by rw [hsz]; simp)
      have s4 : (((((((w1.setCell ⟨w.heap.size + 1, 6, none⟩ (.int .i64 x0)).setCell ⟨w.heap.size + 1, 7, none⟩ (.int .i64 x1)).setCell ⟨w.heap.size + 1, 8, none⟩ (.int .i64 x2)).setCell ⟨w.heap.size + 1, 9, none⟩ (.int .i64 x3)).setCell ⟨w.heap.size + 1, 10, none⟩ (.int .i64 x4)).setCell ⟨w.heap.size + 1, 11, none⟩ (.int .i64 x5)).drew).heap[w.heap.size + 1]? = some (.cells (iv (memB l0 l1 l2 2)).toArray 74 (0, 0)) := by
       have hput := memB_put (l := l1) 1 (by omega) HR.out.2.1 HD.out.1 rfl
       have hcur : cur = (iv (memB l0 l1 l2 2)).toArray := by
        have hiv : iv l1 = [.int .i64 x0, .int .i64 x1, .int .i64 x2, .int .i64 x3, .int .i64 x4, .int .i64 x5] := (congrArg iv HD.out.2.1).trans rfl
        apply Array.toList_inj.1
        rw [hiv] at hput
        rw [← hput]
        exact s3
       rw [← hcur]
       exact blk_drew s1
      have s5 : (((((((w1.setCell ⟨w.heap.size + 1, 6, none⟩ (.int .i64 x0)).setCell ⟨w.heap.size + 1, 7, none⟩ (.int .i64 x1)).setCell ⟨w.heap.size + 1, 8, none⟩ (.int .i64 x2)).setCell ⟨w.heap.size + 1, 9, none⟩ (.int .i64 x3)).setCell ⟨w.heap.size + 1, 10, none⟩ (.int .i64 x4)).setCell ⟨w.heap.size + 1, 11, none⟩ (.int .i64 x5)).drew).heap[w.heap.size + 1 + 1]? = some (.cells #[.slice A0 l0.length c0, .slice A1 l1.length c1, .slice A2 l2.length c2] 28 (0, 0)) := by
       refine blk_drew ?_
       refine blk_far (blk_far (blk_far (blk_far (blk_far (blk_far kr ?_ _) ?_ _) ?_ _) ?_ _) ?_ _) ?_ _ <;> simp
      have s6 : Below w.heap.size w (((((((w1.setCell ⟨w.heap.size + 1, 6, none⟩ (.int .i64 x0)).setCell ⟨w.heap.size + 1, 7, none⟩ (.int .i64 x1)).setCell ⟨w.heap.size + 1, 8, none⟩ (.int .i64 x2)).setCell ⟨w.heap.size + 1, 9, none⟩ (.int .i64 x3)).setCell ⟨w.heap.size + 1, 10, none⟩ (.int .i64 x4)).setCell ⟨w.heap.size + 1, 11, none⟩ (.int .i64 x5)).drew) := below_drew (below_set (below_set (below_set (below_set (below_set (below_set hB1 (by omega)) (by omega)) (by omega)) (by omega)) (by omega)) (by omega))
      have s7 : okT l0 l1 l2 2 = true := by
       have hp := HR.out.2.1
       have hq : listOk l1 = true := by unfold listOk; rw [HD.out.1, HV.out]; rfl
       simp only [okT, Bool.and_eq_true]; exact ⟨hp, hq⟩
      have HS := Aside0.mk (And.intro s7 (And.intro s4 (And.intro s5 s6)))
      clear s1 s2 s3 s4 s5 s6 s7 hB1 kb kr hb hb1 hsz h6
      go_wp2
      have harr := arrayAt_bank (some ad)
      go_region
      go_wp2
      go_roundw
      case rel => exact ⟨2, by simp, ⟨by omega, HS.out.1, HS.out.2.1, HS.out.2.2.1, HS.out.2.2.2⟩⟩
      case measure => simp [intOf]
    ·have b6 : ((l1.length : Int) != 6) = true := by rw [bne_iff_ne]; omega
     have H6 := Aside0.mk h6; clear h6
     go_wp2
     go_ret2
     exact ⟨.inr ⟨by
      have : listOk l1 = false := by unfold listOk; rw [show (l1.length == 6) = false from beq_false_of_ne H6.out]; rfl
      rw [this]; simp, rfl⟩, HR.out.2.2.2.2⟩
   ·have q : wr.cell? ⟨w.heap.size + 1 + 1, 2, none⟩ = some (.slice A2 l2.length c2) := by rw [blk_cell HR.out.2.2.2.1]; rfl
    by_cases h6 : l2.length = 6
    ·have b6 : ((l2.length : Int) != 6) = false := by rw [h6]; rfl
     have hC := Kd.C_below HC.out.2.2.1 HR.out.2.2.2.2
     have hcall := containsFunc_any 36 (fun n => !isNumL n) HC.out.2.2.2.2.2.2.1 HC.out.2.2.2.2.2.2.2 l2 A2 c2 wr hC HC.out.2.2.2.2.2.1
     obtain ⟨ad, x0, hA, z0, e0⟩ := int_at2 hC 0 (by omega)
     obtain ⟨ad1, x1, hA1, z1, e1⟩ := int_at2 hC 1 (by omega)
     obtain ⟨ad2, x2, hA2, z2, e2⟩ := int_at2 hC 2 (by omega)
     obtain ⟨ad3, x3, hA3, z3, e3⟩ := int_at2 hC 3 (by omega)
     obtain ⟨ad4, x4, hA4, z4, e4⟩ := int_at2 hC 4 (by omega)
     obtain ⟨ad5, x5, hA5, z5, e5⟩ := int_at2 hC 5 (by omega)
     rw [hA] at hA1 hA2 hA3 hA4 hA5
     cases hA1; cases hA2; cases hA3; cases hA4; cases hA5
     simp only [show ad.add 0 = ad by simp [Addr.add], show ad.add 1 = ⟨ad.block, ad.off + 1, none⟩ by simp [Addr.add], show ad.add 2 = ⟨ad.block, ad.off + 2, none⟩ by simp [Addr.add], show ad.add 3 = ⟨ad.block, ad.off + 3, none⟩ by simp [Addr.add], show ad.add 4 = ⟨ad.block, ad.off + 4, none⟩ by simp [Addr.add], show ad.add 5 = ⟨ad.block, ad.off + 5, none⟩ by simp [Addr.add]] at e0 e1 e2 e3 e4 e5
     have hx := six_get h6 z0 z1 z2 z3 z4 z5
     have HD : Aside0 (_ ∧ _ ∧ _) := Aside0.mk (And.intro h6 (And.intro hx (And.intro e0 (And.intro e1 (And.intro e2 (And.intro e3 (And.intro e4 e5)))))))
     rw [h6] at q hcall b6
     rw [hA] at q hcall
     have HF := Aside0.mk hcall
     clear hcall hC hA hx z0 z1 z2 z3 z4 z5 e0 e1 e2 e3 e4 e5
     cases hv : l2.any (fun n => !isNumL n) with
     | true =>
      have HV := Aside0.mk hv; clear hv
      go_wp2_with fail
      refine HF.out.mono ?_
      clear HF
      rintro e w1 ⟨rfl, hb1⟩
      rw [HV.out]
      have HB := Aside0.mk (HR.out.2.2.2.2.trans (hb1.mono HR.out.2.2.2.2.size)); clear hb1
      go_wp2
      go_ret2
      exact ⟨.inr ⟨by unfold listOk; rw [HV.out]; simp, rfl⟩, HB.out⟩
     | false =>
      have HV := Aside0.mk hv; clear hv
      go_wp2_with fail
      refine HF.out.mono ?_
      clear HF
      rintro e w1 ⟨rfl, hb1⟩
      rw [HV.out]
      have hb := hb1
      have e0 := (hb.cell (World.block_lt_of_cell? wr _ HD.out.2.2.1)).trans HD.out.2.2.1
      have e1 := (hb.cell (World.block_lt_of_cell? wr _ HD.out.2.2.2.1)).trans HD.out.2.2.2.1
      have e2 := (hb.cell (World.block_lt_of_cell? wr _ HD.out.2.2.2.2.1)).trans HD.out.2.2.2.2.1
      have e3 := (hb.cell (World.block_lt_of_cell? wr _ HD.out.2.2.2.2.2.1)).trans HD.out.2.2.2.2.2.1
      have e4 := (hb.cell (World.block_lt_of_cell? wr _ HD.out.2.2.2.2.2.2.1)).trans HD.out.2.2.2.2.2.2.1
      have e5 := (hb.cell (World.block_lt_of_cell? wr _ HD.out.2.2.2.2.2.2.2)).trans HD.out.2.2.2.2.2.2.2
      have kb := (hb.block _ (blk_lt HR.out.2.2.1)).trans HR.out.2.2.1
      have kr := (hb.block _ (blk_lt HR.out.2.2.2.1)).trans HR.out.2.2.2.1
      have hB1 : Below w.heap.size w w1 := HR.out.2.2.2.2.trans (hb1.mono HR.out.2.2.2.2.size)
      have hsz : (iv (memB l0 l1 l2 2)).toArray.size = 18 := by rw [List.size_toArray, iv_len]; exact memB_len 2 HR.out.2.1
      obtain ⟨o0, q0⟩ : ∃ o, w1.cell? ⟨w.heap.size + 1, 12, none⟩ = some o := ⟨_, (blk_cell kb 12).trans (Array.getElem?_eq_getElem (by omega))⟩
      have y0 : w1.frozen? ⟨w.heap.size + 1, 12, none⟩ = false := blk_frozen kb 12
      obtain ⟨o1, q1⟩ : ∃ o, w1.cell? ⟨w.heap.size + 1, 13, none⟩ = some o := ⟨_, (blk_cell kb 13).trans (Array.getElem?_eq_getElem (by omega))⟩
      have y1 : w1.frozen? ⟨w.heap.size + 1, 13, none⟩ = false := blk_frozen kb 13
      obtain ⟨o2, q2⟩ : ∃ o, w1.cell? ⟨w.heap.size + 1, 14, none⟩ = some o := ⟨_, (blk_cell kb 14).trans (Array.getElem?_eq_getElem (by omega))⟩
      have y2 : w1.frozen? ⟨w.heap.size + 1, 14, none⟩ = false := blk_frozen kb 14
      obtain ⟨o3, q3⟩ : ∃ o, w1.cell? ⟨w.heap.size + 1, 15, none⟩ = some o := ⟨_, (blk_cell kb 15).trans (Array.getElem?_eq_getElem (by omega))⟩
      have y3 : w1.frozen? ⟨w.heap.size + 1, 15, none⟩ = false := blk_frozen kb 15
      obtain ⟨o4, q4⟩ : ∃ o, w1.cell? ⟨w.heap.size + 1, 16, none⟩ = some o := ⟨_, (blk_cell kb 16).trans (Array.getElem?_eq_getElem (by omega))⟩
      have y4 : w1.frozen? ⟨w.heap.size + 1, 16, none⟩ = false := blk_frozen kb 16
      obtain ⟨o5, q5⟩ : ∃ o, w1.cell? ⟨w.heap.size + 1, 17, none⟩ = some o := ⟨_, (blk_cell kb 17).trans (Array.getElem?_eq_getElem (by omega))⟩
      have y5 : w1.frozen? ⟨w.heap.size + 1, 17, none⟩ = false := blk_frozen kb 17
      obtain ⟨cur, s1, s2, s3⟩ := setCells_row (g := w.heap.size + 1) [.int .i64 x0, .int .i64 x1, .int .i64 x2, .int .i64 x3, .int .i64 x4, .int .i64 x5] (2 * 6) w1 _ kb (by rw [hsz]; simp)
      have s4 : (((((((w1.setCell ⟨w.heap.size + 1, 12, none⟩ (.int .i64 x0)).setCell ⟨w.heap.size + 1, 13, none⟩ (.int .i64 x1)).setCell ⟨w.heap.size + 1, 14, none⟩ (.int .i64 x2)).setCell ⟨w.heap.size + 1, 15, none⟩ (.int .i64 x3)).setCell ⟨w.heap.size + 1, 16, none⟩ (.int .i64 x4)).setCell ⟨w.heap.size + 1, 17, none⟩ (.int .i64 x5)).drew).heap[w.heap.size + 1]? = some (.cells (iv (memB l0 l1 l2 3)).toArray 74 (0, 0)) := by
       have hput := memB_put (l := l2) 2 (by omega) HR.out.2.1 HD.out.1 rfl
       have hcur : cur = (iv (memB l0 l1 l2 3)).toArray := by
        have hiv : iv l2 = [.int .i64 x0, .int .i64 x1, .int .i64 x2, .int .i64 x3, .int .i64 x4, .int .i64 x5] := (congrArg iv HD.out.2.1).trans rfl
        apply Array.toList_inj.1
        rw [hiv] at hput
        rw [← hput]
        exact s3
       rw [← hcur]
       exact blk_drew s1
      have s5 : (((((((w1.setCell ⟨w.heap.size + 1, 12, none⟩ (.int .i64 x0)).setCell ⟨w.heap.size + 1, 13, none⟩ (.int .i64 x1)).setCell ⟨w.heap.size + 1, 14, none⟩ (.int .i64 x2)).setCell ⟨w.heap.size + 1, 15, none⟩ (.int .i64 x3)).setCell ⟨w.heap.size + 1, 16, none⟩ (.int .i64 x4)).setCell ⟨w.heap.size + 1, 17, none⟩ (.int .i64 x5)).drew).heap[w.heap.size + 1 + 1]? = some (.cells #[.slice A0 l0.length c0, .slice A1 l1.length c1, .slice A2 l2.length c2] 28 (0, 0)) := by
       refine blk_drew ?_
       refine blk_far (blk_far (blk_far (blk_far (blk_far (blk_far kr ?_ _) ?_ _) ?_ _) ?_ _) ?_ _) ?_ _ <;> simp
      have s6 : Below w.heap.size w (((((((w1.setCell ⟨w.heap.size + 1, 12, none⟩ (.int .i64 x0)).setCell ⟨w.heap.size + 1, 13, none⟩ (.int .i64 x1)).setCell ⟨w.heap.size + 1, 14, none⟩ (.int .i64 x2)).setCell ⟨w.heap.size + 1, 15, none⟩ (.int .i64 x3)).setCell ⟨w.heap.size + 1, 16, none⟩ (.int .i64 x4)).setCell ⟨w.heap.size + 1, 17, none⟩ (.int .i64 x5)).drew) := below_drew (below_set (below_set (below_set (below_set (below_set (below_set hB1 (by omega)) (by omega)) (by omega)) (by omega)) (by omega)) (by omega))
      have s7 : okT l0 l1 l2 3 = true := by
       have hp := HR.out.2.1
       have hq : listOk l2 = true := by unfold listOk; rw [HD.out.1, HV.out]; rfl
       simp only [okT, Bool.and_eq_true] at hp ⊢; exact ⟨hp.1, hp.2, hq⟩
      have HS := Aside0.mk (And.intro s7 (And.intro s4 (And.intro s5 s6)))
      clear s1 s2 s3 s4 s5 s6 s7 hB1 kb kr hb hb1 hsz h6
      go_wp2
      have harr := arrayAt_bank (some ad)
      go_region
      go_wp2
      go_roundw
      case rel => exact ⟨3, by simp, ⟨by omega, HS.out.1, HS.out.2.1, HS.out.2.2.1, HS.out.2.2.2⟩⟩
      case measure => simp [intOf]
    ·have b6 : ((l2.length : Int) != 6) = true := by rw [bne_iff_ne]; omega
     have H6 := Aside0.mk h6; clear h6
     go_wp2
     go_ret2
     exact ⟨.inr ⟨by
      have : listOk l2 = false := by unfold listOk; rw [show (l2.length == 6) = false from beq_false_of_ne H6.out]; rfl
      rw [this]; simp, rfl⟩, HR.out.2.2.2.2⟩
  ·have hj3 : j = 3 := by have := HR.out.1; omega
   subst hj3
   go_wp2
   go_ret2
   refine ⟨.inl ⟨HR.out.2.1, w.heap.size + 1, rfl, HR.out.2.2.1, memB_len 3 HR.out.2.1⟩, HR.out.2.2.2.2⟩
end Go.Proofs.Ytacbbpbopmdpeaa.B
