/- The laws' copy of a tree into impl's type. -/
import Derived.Test.YtiofkhfmdophpaaTree
namespace Go.Proofs.Ytiofkhfmdophpaa.B
open Go.RowKit Go.Proofs.YtiofkhfmdophpaaW.PrintWords Go.Proofs.YtiofkhfmdophpaaW.PrintLast Go.Proofs.YtiofkhfmdophpaaW.PrintMore
set_option linter.unusedVariables false

theorem three_blocks (w : World) (a b c : Obj) : (((w.alloc a).alloc b).alloc c).heap.size = w.heap.size + 1 + 1 + 1 ∧ (((w.alloc a).alloc b).alloc c).heap[w.heap.size]? = some a ∧ (((w.alloc a).alloc b).alloc c).heap[w.heap.size + 1]? = some b ∧ (((w.alloc a).alloc b).alloc c).heap[w.heap.size + 1 + 1]? = some c ∧ Below w.heap.size w (((w.alloc a).alloc b).alloc c) := by
 have s1 : (w.alloc a).heap.size = w.heap.size + 1 := by simp
 have s2 : ((w.alloc a).alloc b).heap.size = w.heap.size + 1 + 1 := by simp
 have s3 : (((w.alloc a).alloc b).alloc c).heap.size = w.heap.size + 1 + 1 + 1 := by simp
 refine ⟨s3, ?_, ?_, ?_, (((Below.refl w.heap.size w).alloc (Nat.le_refl _) _).alloc (by omega) _).alloc (by omega) _⟩
 ·rw [Below.heap_alloc _ _ _ (by omega), Below.heap_alloc _ _ _ (by omega)]; exact heap_alloc_new w a
 ·rw [Below.heap_alloc _ _ _ (by omega), ← s1]; exact heap_alloc_new _ b
 ·rw [← s2]; exact heap_alloc_new _ c
/-- The row that is being filled: what has been put. -/
def RowT (w : World) (g : Nat) (l : List LEx) (j : Nat) : Prop := ∃ cells : Array Value, w.heap[g]? = some (.cells cells 32 (0, 0)) ∧ cells.size = l.length * 5 ∧
 ∀ (i : Nat) (h : i < l.length), i < j → ∃ c : List Value, Kd.FK iexK w (fun k => g < k) (toE l[i]) c ∧ ∀ q u, c[q]? = some u → cells[i * 5 + q]? = some u
theorem RowT.init (w : World) (l : List LEx) (cells : Array Value) (hs : cells.size = l.length * 5) : RowT (w.alloc (.cells cells 32)) w.heap.size l 0 :=
 ⟨cells, heap_alloc_new w _, hs, fun i _ hi => absurd hi (Nat.not_lt_zero i)⟩
theorem RowT.below {w w1 : World} {g : Nat} {l : List LEx} {j : Nat} (h : RowT w g l j) (hb : Below w.heap.size w w1) : RowT w1 g l j := by
 obtain ⟨cells, h1, h2, h3⟩ := h
 refine ⟨cells, (hb.block g (blk_lt h1)).trans h1, h2, fun i hi hj => ?_⟩
 obtain ⟨c, hc, hq⟩ := h3 i hi hj
 exact ⟨c, Kd.FK_below hc hb, hq⟩
theorem RowT.store {w : World} {g : Nat} {l : List LEx} {j : Nat} (h : RowT w g l j) (hj : j < l.length) {c : List Value} (hc : Kd.FK iexK w (fun k => g < k) (toE l[j]) c) : RowT (w.setCells g (j * 5) c) g l (j + 1) := by
 obtain ⟨cells, h1, h2, h3⟩ := h
 have hlen : c.length = 5 := iexK.K_len (Kd.FK_now hc)
 obtain ⟨cur, e1, e2, e3⟩ := setCells_row c (j * 5) w cells h1 (by omega)
 have hf : ∀ {x : IEx} {c' : List Value}, Kd.FK iexK w (fun k => g < k) x c' → Kd.FK iexK (w.setCells g (j * 5) c) (fun k => g < k) x c' := fun hx => Kd.FK_step hx (fun k hk _ => setCells_far c (j * 5) k (by omega))
 refine ⟨cur, e1, e2.trans h2, fun i hi hij => ?_⟩
 by_cases hlt : i < j
 ·obtain ⟨c', hc', hq⟩ := h3 i hi hlt
  refine ⟨c', hf hc', fun q u hu => ?_⟩
  have hl' : c'.length = 5 := iexK.K_len (Kd.FK_now hc')
  have hq5 : q < 5 := by have := (List.getElem?_eq_some_iff.1 hu).1; omega
  have := hq q u hu
  rw [← Array.getElem?_toList] at this ⊢
  rw [e3, List.append_assoc, List.getElem?_append_left (by simp; omega), List.getElem?_take]
  rw [if_pos (by omega)]
  exact this
 ·obtain rfl : i = j := by omega
  refine ⟨c, hf hc, fun q u hu => ?_⟩
  have hq5 : q < 5 := by have := (List.getElem?_eq_some_iff.1 hu).1; omega
  have hlt2 : (cells.toList.take (i * 5)).length = i * 5 := by simp; omega
  rw [← Array.getElem?_toList, e3, List.append_assoc, List.getElem?_append_right (by omega), hlt2, Nat.add_sub_cancel_left, List.getElem?_append_left (by omega)]
  exact hu
theorem RowT.done {w : World} {g : Nat} {l : List LEx} (h : RowT w g l l.length) (hm : l.length ≤ 9223372036854775807) : Kd.F iexK w (fun k => g ≤ k) (some ⟨g, 0, none⟩) l.length (l.map toE) := by
 obtain ⟨cells, h1, h2, h3⟩ := h
 intro W hW
 have hg : W.heap[g]? = some (.cells cells 32 (0, 0)) := (hW g (Nat.le_refl _) (blk_lt h1)).trans h1
 refine ⟨by simp, hm, fun hn => ⟨⟨g, 0, none⟩, rfl, fun j p hj => ?_⟩⟩
 have hj' : j < l.length := by have := (List.getElem?_eq_some_iff.1 hj).1; simpa using this
 obtain rfl : toE l[j] = p := by rw [List.getElem?_map, List.getElem?_eq_getElem hj'] at hj; simpa using hj
 obtain ⟨c, hc, hq⟩ := h3 j hj' hj'
 have hK := hc W (fun k hk hlt => hW k (Nat.le_of_lt hk) hlt)
 refine ⟨c, iexK.K_len hK, hK, fun i u hu => ?_⟩
 have hz : (iexK).sz = 5 := rfl
 rw [hz]
 have := hq i u hu
 rw [show (⟨g, 0, none⟩ : Addr).add (j * 5 + i) = ⟨g, j * 5 + i, none⟩ by unfold Addr.add; split <;> simp_all, blk_cell hg]
 exact this

theorem le_sum_cnt : ∀ (l : List LEx) (x : LEx), x ∈ l → cnt x ≤ (l.map cnt).sum
 | y :: l, x, h => by
  rcases List.mem_cons.1 h with rfl | h
  ·simp
  ·have := le_sum_cnt l x h; simp; omega
def ToSPost (l : List LEx) (w : World) (e : Ending) (w' : World) : Prop := ∃ A, e = .returned (.slice A l.length l.length) ∧ Kd.F iexK w' (fun k => w.heap.size ≤ k) A l.length (l.map toE) ∧ Below w.heap.size w w'
def ToPost (x : LEx) (w : World) (e : Ending) (w' : World) : Prop := ∃ A, e = .returned (.agg #[.int .i64 x.f0, .int .i64 x.f1, .int .i64 x.f2.f0, .int .i64 x.f2.f1, .slice A x.f3.length x.f3.length]) ∧ Kd.F iexK w' (fun k => w.heap.size ≤ k) A x.f3.length (x.f3.map toE) ∧ Below w.heap.size w w'

theorem info_cells (cs : List Value) : (Value.agg cs.toArray).cells.toList = cs := by simp [Value.cells]
set_option maxRecDepth 100000 in
set_option maxHeartbeats 2000000 in
theorem toExprS_of (l : List LEx) (ih : ∀ x ∈ l, ∀ (A : Option Addr) (c : Nat) (w : World), Kd.C lexK w A x.f3.length x.f3 → x.f3.length ≤ c → cnt x ≤ 1048576 →
   Calls Try.prog 17 #[.agg #[.int .i64 x.f0, .int .i64 x.f1, .int .i64 x.f2.f0, .int .i64 x.f2.f1, .slice A x.f3.length c]] w (ToPost x w))
  (A : Option Addr) (c : Nat) (w : World) (hC : Kd.C lexK w A l.length l) (hc : l.length ≤ c) (hn : cntS l ≤ 1048576) :
  Calls Try.prog 54 #[.slice A l.length c] w (ToSPost l w) := by
 have hmax : l.length ≤ 9223372036854775807 := hC.2.1
 have hlen : l.length ≤ 1048576 := by unfold cntS at hn; omega
 have hkid : ∀ x ∈ l, cnt x ≤ 1048576 := by
  intro x hx
  have := le_sum_cnt l x hx
  unfold cntS at hn; omega
 obtain ⟨i0, hi, hii⟩ := Option.map_eq_some_iff.1 info32
 simp only [Prod.mk.injEq] at hii
 obtain ⟨hz, hsz, hby⟩ := hii
 have hmk := run_make (P := Try.prog) w 30 32 i0 _ Try.underlying30 hi hz .i64 .i64 (l.length : Int) (l.length : Int) (by omega) (by omega) (by rw [hby]; omega) (by omega)
 simp only [Int.toNat_natCast, hsz] at hmk
 obtain ⟨cells0, hc0⟩ : ∃ cells0, cells0 = (madeCells (Value.agg #[(.int .i64 0), (.int .i64 0), (.int .i64 0), (.int .i64 0), (.slice none 0 0)]).cells (l.length * 5)) := ⟨_, rfl⟩
 rw [← hc0] at hmk
 have hcs : cells0.size = l.length * 5 := by rw [hc0, size_madeCells]
 have hR0 := Aside0.mk (RowT.init w l cells0 hcs)
 clear hc0 hcs hi hz hsz hby hlen
 have HK := Aside0.mk (And.intro hkid hn)
 clear hkid hn
 go_enter Try.func54, Try.ntmps54
 go_wp2
 go_loopw [4] (fun i wr => ∃ (j : Nat), i = .int .i64 j ∧ Aside0 (j ≤ l.length ∧ RowT wr w.heap.size l j ∧ Below w.heap.size w wr)) (fun i _ => l.length - (intOf i).toNat)
 case atStart => exact ⟨0, rfl, ⟨Nat.zero_le _, hR0.out, (Below.refl _ _).alloc (Nat.le_refl _) _⟩⟩
 case round =>
  obtain ⟨j, rfl, HR⟩ := hrel
  by_cases hj : j < l.length
  ·obtain ⟨ad, A4, c4, hA, e0, e1, e2, e3, e4, hl4, hi4⟩ := at_T26 hC (j : Int) (by omega) (by omega)
   have hkid : rd_T26 l (j : Int) = l[j] := by simp [rd_T26, hj]
   cases hA
   have hb := HR.out.2.2
   replace e0 := (hb.cell (World.block_lt_of_cell? w _ e0)).trans e0
   replace e1 := (hb.cell (World.block_lt_of_cell? w _ e1)).trans e1
   replace e2 := (hb.cell (World.block_lt_of_cell? w _ e2)).trans e2
   replace e3 := (hb.cell (World.block_lt_of_cell? w _ e3)).trans e3
   replace e4 := (hb.cell (World.block_lt_of_cell? w _ e4)).trans e4
   rw [hkid] at e0 e1 e2 e3 e4 hl4 hi4
   simp only [Int.toNat_natCast] at e0 e1 e2 e3 e4
   have hcall := ih l[j] (List.getElem_mem hj) A4 c4 wr (Kd.C_below hi4 hb) hl4 (HK.out.1 _ (List.getElem_mem hj))
   obtain ⟨kid, hkd⟩ : ∃ kid, kid = l[j] := ⟨_, rfl⟩
   rw [← hkd] at e0 e1 e2 e3 e4 hl4 hi4 hcall
   have HX := Aside0.mk (And.intro hkd hmax)
   have HC := Aside0.mk hcall
   have HJ := Aside0.mk hj
   clear hcall hkid hkd hb hi4 hl4
   go_wp2_with fail
   refine HC.out.mono ?_
   clear HC
   rintro e w1 ⟨A', rfl, hF, hb1⟩
   have hg : w.heap.size < wr.heap.size := by obtain ⟨_, q, _⟩ := HR.out.2.1; exact blk_lt q
   have hR1 := RowT.below HR.out.2.1 hb1
   have hfk : Kd.FK iexK w1 (fun k => w.heap.size < k) (toE l[j]) [.int .i64 kid.f0, .int .i64 kid.f1, .int .i64 kid.f2.f0, .int .i64 kid.f2.f1, .slice A' kid.f3.length kid.f3.length] := by
    rw [← HX.out.1, toE_eq]
    have := k32_mkF w1 (fun k => w.heap.size < k) (⟨kid.f0, kid.f1, ⟨kid.f2.f0, kid.f2.f1⟩, kid.f3.map toE⟩ : IEx) (A4 := A') (c4 := kid.f3.length) (by simp) (by simpa using Kd.F_mono hF (fun k hk => Nat.lt_of_lt_of_le hg hk))
    simpa using this
   have hR2 := RowT.store hR1 hj hfk
   have hR3 : RowT ((((((w1.setCell ⟨w.heap.size, j * 5, none⟩ (.int .i64 kid.f0)).setCell ⟨w.heap.size, j * 5 + 1, none⟩ (.int .i64 kid.f1)).setCell ⟨w.heap.size, j * 5 + 2, none⟩ (.int .i64 kid.f2.f0)).setCell ⟨w.heap.size, j * 5 + 3, none⟩ (.int .i64 kid.f2.f1)).setCell ⟨w.heap.size, j * 5 + 4, none⟩ (.slice A' kid.f3.length kid.f3.length))) w.heap.size l (j + 1) := hR2
   have hB2 : Below w.heap.size w ((((((w1.setCell ⟨w.heap.size, j * 5, none⟩ (.int .i64 kid.f0)).setCell ⟨w.heap.size, j * 5 + 1, none⟩ (.int .i64 kid.f1)).setCell ⟨w.heap.size, j * 5 + 2, none⟩ (.int .i64 kid.f2.f0)).setCell ⟨w.heap.size, j * 5 + 3, none⟩ (.int .i64 kid.f2.f1)).setCell ⟨w.heap.size, j * 5 + 4, none⟩ (.slice A' kid.f3.length kid.f3.length))) :=
    below_set (below_set (below_set (below_set (below_set (HR.out.2.2.trans (hb1.mono (Nat.le_of_lt hg))) (Nat.le_refl _)) (Nat.le_refl _)) (Nat.le_refl _)) (Nat.le_refl _)) (Nat.le_refl _)
   obtain ⟨cells, q1, q2, q3⟩ := hR1
   obtain ⟨x0, z0⟩ : ∃ x, w1.cell? ⟨w.heap.size, j * 5, none⟩ = some x := ⟨_, (blk_cell q1 (j * 5)).trans (Array.getElem?_eq_getElem (by omega))⟩
   obtain ⟨x1, z1⟩ : ∃ x, w1.cell? ⟨w.heap.size, j * 5 + 1, none⟩ = some x := ⟨_, (blk_cell q1 (j * 5 + 1)).trans (Array.getElem?_eq_getElem (by omega))⟩
   obtain ⟨x2, z2⟩ : ∃ x, w1.cell? ⟨w.heap.size, j * 5 + 2, none⟩ = some x := ⟨_, (blk_cell q1 (j * 5 + 2)).trans (Array.getElem?_eq_getElem (by omega))⟩
   obtain ⟨x3, z3⟩ : ∃ x, w1.cell? ⟨w.heap.size, j * 5 + 3, none⟩ = some x := ⟨_, (blk_cell q1 (j * 5 + 3)).trans (Array.getElem?_eq_getElem (by omega))⟩
   obtain ⟨x4, z4⟩ : ∃ x, w1.cell? ⟨w.heap.size, j * 5 + 4, none⟩ = some x := ⟨_, (blk_cell q1 (j * 5 + 4)).trans (Array.getElem?_eq_getElem (by omega))⟩
   have y0 := blk_frozen q1 (j * 5)
   have y1 := blk_frozen q1 (j * 5 + 1)
   have y2 := blk_frozen q1 (j * 5 + 2)
   have y3 := blk_frozen q1 (j * 5 + 3)
   have y4 := blk_frozen q1 (j * 5 + 4)
   have HB := Aside0.mk (And.intro hR3 hB2)
   clear hR2 hR3 hB2 hfk hb1 hF hg q1 q2 q3
   go_wp2
   go_roundw
   case rel => exact ⟨j + 1, by go_num, ⟨HJ.out, HB.out.1, HB.out.2⟩⟩
   case measure => have := HJ.out; simp [intOf]; omega
  ·have hjl : j = l.length := by have := HR.out.1; omega
   subst hjl
   have hF := RowT.done HR.out.2.1 hmax
   have HF := Aside0.mk hF; clear hF
   go_wp2
   go_ret
   exact ⟨_, rfl, HF.out, HR.out.2.2⟩

set_option maxRecDepth 100000 in
set_option maxHeartbeats 2000000 in
theorem toExpr_any (x : LEx) : ∀ (A : Option Addr) (c : Nat) (w : World), Kd.C lexK w A x.f3.length x.f3 → x.f3.length ≤ c → cnt x ≤ 1048576 →
   Calls Try.prog 17 #[.agg #[.int .i64 x.f0, .int .i64 x.f1, .int .i64 x.f2.f0, .int .i64 x.f2.f1, .slice A x.f3.length c]] w (ToPost x w) := by
 induction x using LEx.ind with
 | h x ih =>
  intro A c w hC hc hn
  rw [cnt_eq] at hn
  go_enter Try.func17, Try.ntmps17
  go_wp2_with fail
  refine (laws_toAddr.calls x.f2.f0 x.f2.f1 x.f2.f0 x.f2.f1 _ rfl).mono ?_
  rintro e w1 ⟨rfl, hb1⟩
  obtain ⟨hs, k1, k2, k3, hB0⟩ := three_blocks w (.cells #[.int .i64 x.f0, .int .i64 x.f1, .int .i64 x.f2.f0, .int .i64 x.f2.f1, .slice A x.f3.length c] 26 (0, 0)) (.cells #[.int .i64 0, .int .i64 0, .int .i64 0, .int .i64 0, .slice none 0 0] 32 (0, 0)) (.cells #[.int .i64 x.f0, .int .i64 x.f1, .int .i64 0, .int .i64 0, .slice none 0 0] 32 (0, 0))
  replace k1 := (hb1.block _ (by rw [hs]; omega)).trans k1
  replace k2 := (hb1.block _ (by rw [hs]; omega)).trans k2
  replace k3 := (hb1.block _ (by rw [hs]; omega)).trans k3
  have hB1 : Below w.heap.size w w1 := hB0.trans (hb1.mono hB0.size)
  have hs1 : w.heap.size + 1 + 1 < w1.heap.size := blk_lt k3
  clear hb1 hs hB0
  have hlt : w.heap.size < w1.heap.size := by omega
  have c1 : w1.cell? ⟨w.heap.size, 4, none⟩ = some (.slice A x.f3.length c) := by rw [blk_cell k1]; rfl
  have d2 : w1.cell? ⟨w.heap.size + 1 + 1, 2, none⟩ = some (.int .i64 0) := by rw [blk_cell k3]; rfl
  have d3 : w1.cell? ⟨w.heap.size + 1 + 1, 3, none⟩ = some (.int .i64 0) := by rw [blk_cell k3]; rfl
  have f2 := blk_frozen k3 2
  have f3 := blk_frozen k3 3
  have r3 := blk_set (blk_set k3 2 (.int .i64 x.f2.f0)) 3 (.int .i64 x.f2.f1)
  have r2 := blk_far (blk_far k2 (p := ⟨w.heap.size + 1 + 1, 2, none⟩) (by simp) (.int .i64 x.f2.f0)) (p := ⟨w.heap.size + 1 + 1, 3, none⟩) (by simp) (.int .i64 x.f2.f1)
  have hB2 := below_set (below_set hB1 (g := w.heap.size + 1 + 1) (j := 2) (v := .int .i64 x.f2.f0) (by omega)) (g := w.heap.size + 1 + 1) (j := 3) (v := .int .i64 x.f2.f1) (by omega)
  have hcall := toExprS_of x.f3 ih A c _ (Kd.C_below hC hB2) hc hn
  have HX := Aside0.mk (And.intro k1 (And.intro k2 (And.intro k3 (And.intro hB1 (And.intro hB2 (And.intro r2 r3))))))
  have HC := Aside0.mk hcall
  clear hcall k1 k2 k3 hB1 hB2 r2 r3 ih hC
  go_wp2_with fail
  refine HC.out.mono ?_
  clear HC
  rintro e w2 ⟨A', rfl, hF, hb2⟩
  have hsz2 : ((w1.setCell ⟨w.heap.size + 1 + 1, 2, none⟩ (.int .i64 x.f2.f0)).setCell ⟨w.heap.size + 1 + 1, 3, none⟩ (.int .i64 x.f2.f1)).heap.size = w1.heap.size := by simp [World.setCell]
  have k3 := (hb2.block _ (by rw [hsz2]; exact hs1)).trans HX.out.2.2.2.2.2.2
  have k2 := (hb2.block _ (by rw [hsz2]; omega)).trans HX.out.2.2.2.2.2.1
  have hB3 : Below w.heap.size w w2 := HX.out.2.2.2.2.1.trans (hb2.mono (by rw [hsz2]; omega))
  have hs2 : w1.heap.size ≤ w2.heap.size := by have := hb2.size; rw [hsz2] at this; exact this
  rw [hsz2] at hF
  simp only [List.setIfInBounds_toArray, List.set_cons_succ, List.set_cons_zero] at k3
  have c30 : w2.cell? ⟨w.heap.size + 1 + 1, 0, none⟩ = some (.int .i64 x.f0) := by rw [blk_cell k3]; rfl
  have c31 : w2.cell? ⟨w.heap.size + 1 + 1, 1, none⟩ = some (.int .i64 x.f1) := by rw [blk_cell k3]; rfl
  have c32 : w2.cell? ⟨w.heap.size + 1 + 1, 2, none⟩ = some (.int .i64 x.f2.f0) := by rw [blk_cell k3]; rfl
  have c33 : w2.cell? ⟨w.heap.size + 1 + 1, 3, none⟩ = some (.int .i64 x.f2.f1) := by rw [blk_cell k3]; rfl
  have c34 : w2.cell? ⟨w.heap.size + 1 + 1, 4, none⟩ = some (.slice none 0 0) := by rw [blk_cell k3]; rfl
  have f34 := blk_frozen k3 4
  have c20 : w2.cell? ⟨w.heap.size + 1, 0, none⟩ = some (.int .i64 0) := by rw [blk_cell k2]; rfl
  have c21 : w2.cell? ⟨w.heap.size + 1, 1, none⟩ = some (.int .i64 0) := by rw [blk_cell k2]; rfl
  have c22 : w2.cell? ⟨w.heap.size + 1, 2, none⟩ = some (.int .i64 0) := by rw [blk_cell k2]; rfl
  have c23 : w2.cell? ⟨w.heap.size + 1, 3, none⟩ = some (.int .i64 0) := by rw [blk_cell k2]; rfl
  have c24 : w2.cell? ⟨w.heap.size + 1, 4, none⟩ = some (.slice none 0 0) := by rw [blk_cell k2]; rfl
  have f20 := blk_frozen k2 0
  have f21 := blk_frozen k2 1
  have f22 := blk_frozen k2 2
  have f23 := blk_frozen k2 3
  have f24 := blk_frozen k2 4
  have HB := Aside0.mk (And.intro hB3 (And.intro k2 hF))
  clear hB3 k2 k3 hF hb2 HX
  go_wp2
  have r := blk_set (blk_set (blk_set (blk_set (blk_set (blk_far HB.out.2.1 (p := ⟨w.heap.size + 1 + 1, 4, none⟩) (by simp) (.slice A' x.f3.length x.f3.length)) 0 (.int .i64 x.f0)) 1 (.int .i64 x.f1)) 2 (.int .i64 x.f2.f0)) 3 (.int .i64 x.f2.f1)) 4 (.slice A' x.f3.length x.f3.length)
  refine bodyPost_ret (results_cell_row rfl _ _ (w.heap.size + 1) 32 #[.int .i64 x.f0, .int .i64 x.f1, .int .i64 x.f2.f0, .int .i64 x.f2.f1, .slice A' x.f3.length x.f3.length] (0, 0) _ rfl r Try.underlying32 rfl (by kernel_rfl)) rfl ?_
  refine ⟨A', rfl, ?_, below_set (below_set (below_set (below_set (below_set (below_set HB.out.1 (by omega)) (by omega)) (by omega)) (by omega)) (by omega)) (by omega)⟩
  have hne : ∀ k, w1.heap.size ≤ k → k ≠ w.heap.size + 1 + 1 ∧ k ≠ w.heap.size + 1 := fun k hk => by omega
  exact Kd.F_mono (Kd.F_far (Kd.F_far (Kd.F_far (Kd.F_far (Kd.F_far (Kd.F_far HB.out.2.2 (fun k hk => (hne k hk).1) _) (fun k hk => (hne k hk).2) _) (fun k hk => (hne k hk).2) _) (fun k hk => (hne k hk).2) _) (fun k hk => (hne k hk).2) _) (fun k hk => (hne k hk).2) _) (fun k hk => Nat.le_trans (Nat.le_of_lt hlt) hk)
end Go.Proofs.Ytiofkhfmdophpaa.B
