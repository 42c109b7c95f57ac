import Derived.Test.YtendbgedpjcocaaGreatDoorJnD
import Derived.Test.YtendbgedpjcocaaGreatDoorJnH
import Derived.Test.YtendbgedpjcocaaGreatDoorPkA
import Derived.Test.YtendbgedpjcocaaGreatDoorPkB
/- impl's runner: a list is done. -/
namespace Go.Proofs.YtendbgedpjcocaaGreatDoor.B
open Go Go.RowKit Go.Shelf Go.Proofs.YtendbgedpjcocaaGreatDoorW.PrintWords Go.Proofs.YtendbgedpjcocaaGreatDoorW.PrintLast Go.Proofs.YtendbgedpjcocaaGreatDoorW.PrintMore
set_option linter.unusedVariables false

/-- A statement as what is called. -/
structure DoOf (s : St) (A7 : Option Addr) (c7 : Nat) (A8 : Option Addr) (c8 : Nat) (A9 : Option Addr) (c9 : Nat) (T : TypeId) (v : Value) (fo : Nat) (gr : Nat) (w0 : World) (a : Addr) (gm : Nat) (bs : List Int) (f : Int) (r : Res) : Prop where
 v' : doV s A7 c7 A8 c8 A9 c9 = .iface T v
 m : ∀ w, (method 299 T v "loop.example/stopgate/impl.do").run Tryz.prog w = .ok (fo, v) w
 e : ∀ args w, (callFunc fo args).run Tryz.prog w = .ok (.enter fo args) w
 c : ∀ w, Env w0 w gr gm a → RunAt w gr gm bs f → Calls Tryz.prog fo #[v, .pointer (some ⟨gr, 0, none⟩)] w (RunPost a gr gm r w)
theorem form_of_head {s : St} (h : headSt s = true) : formS 6 s.f2 = true := by
 unfold headSt at h
 simp only [Bool.and_eq_true] at h
 have := h.2
 rw [okL_eq, Bool.and_eq_true] at this
 exact this.1
theorem kind_of_head {s : St} (hs : headSt s = true) : s.f0 = 1 ∨ s.f0 = 2 ∨ s.f0 = 3 := by
 unfold headSt plainL at hs
 by_cases h1 : s.f0 = 1
 ·exact .inl h1
 ·by_cases h2 : s.f0 = 2
  ·exact .inr (.inl h2)
  ·by_cases h3 : s.f0 = 3
   ·exact .inr (.inr h3)
   ·rw [if_neg h1, if_neg h2, if_neg h3] at hs; simp at hs
theorem do_of (k : Nat) (hall : ∀ k', k' ≤ k → AllCon k') (d : Nat) (s : St) (hh : headSt s = true) (h3 : formT d s.f3 = true) (h4 : formT d s.f4 = true) (bs : List Int) (f : Int) (r : Res) (hr : stepR k bs s f = some r) (hf0 : 0 ≤ f) (hf1 : f ≤ 100)
  (a : Addr) (gr gm : Nat) (w0 : World) (A7 : Option Addr) (c7 : Nat) (A8 : Option Addr) (c8 : Nat) (A9 : Option Addr) (c9 : Nat) (hC7 : Kd.C exK w0 A7 s.f2.f3.length s.f2.f3) (hc7 : s.f2.f3.length ≤ c7) (hC8 : Kd.C stK w0 A8 s.f3.length s.f3) (hc8 : s.f3.length ≤ c8) (hC9 : Kd.C stK w0 A9 s.f4.length s.f4) (hc9 : s.f4.length ≤ c9) :
  ∃ T v fo, DoOf s A7 c7 A8 c8 A9 c9 T v fo gr w0 a gm bs f r := by
 have he := form_of_head hh
 rcases kind_of_head hh with h | h | h
 ·refine ⟨_, _, _, by rw [doV, if_pos h], meth_do1 _, enters_of Tryz.func125 (by kernel_rfl) rfl, fun w hN hR => ?_⟩
  rw [stepR, if_pos h] at hr
  injection hr with hr
  rw [← hr]
  exact do_set bs s.f1.f0 s.f1.f1 f s.f2 he a gr gm hN.ne A7 c7 w hR (Kd.C_below hC7 hN.b) hc7
 ·refine ⟨_, _, _, by rw [doV, if_neg (by omega), if_pos h], meth_do2 _, enters_of Tryz.func128 (by kernel_rfl) rfl, fun w hN hR => ?_⟩
  rw [stepR, if_neg (by omega), if_neg (by omega)] at hr
  refine do_if bs f s.f2 he r a gr gm A7 c7 _ _ A8 c8 A9 c9 w hR (Kd.C_below hC7 hN.b) hc7 (fun h0 W hW hRW => ?_) (fun h0 W hW hRW => ?_)
  ·rw [if_neg h0] at hr
   exact hall k (Nat.le_refl _) d s.f3 h3 bs f r hr hf0 hf1 a gr gm w0 W A8 c8 (hN.below hW) hRW hC8 hc8
  ·rw [if_pos h0] at hr
   exact hall k (Nat.le_refl _) d s.f4 h4 bs f r hr hf0 hf1 a gr gm w0 W A9 c9 (hN.below hW) hRW hC9 hc9
 ·refine ⟨_, _, _, by rw [doV, if_neg (by omega), if_neg (by omega), if_pos h], meth_do3 _, enters_of Tryz.func131 (by kernel_rfl) rfl, fun w hN hR => ?_⟩
  exact do_while k hall d s h he h3 bs f r hr hf0 hf1 a gr gm w0 w A7 c7 A8 c8 hN hR hC7 hc7 hC8 hc8
theorem form_cons {d : Nat} {s : St} {l : List St} (h : formT d (s :: l) = true) : ∃ d', d = d' + 1 ∧ headSt s = true ∧ formT d' s.f3 = true ∧ formT d' s.f4 = true ∧ formT d l = true := by
 cases d with
 | zero => cases h
 | succ d =>
  have e : formT (d + 1) (s :: l) = ((headSt s && (formT d s.f3 && formT d s.f4)) && formT (d + 1) l) := rfl
  rw [e] at h
  simp only [Bool.and_eq_true] at h
  exact ⟨d, rfl, h.1.1, h.1.2.1, h.1.2.2, h.2⟩
theorem form_drop {d : Nat} : ∀ (l : List St) (j : Nat), formT d l = true → formT d (l.drop j) = true := by
 intro l
 induction l with
 | nil => intro j h; simpa using h
 | cons s l ih =>
  intro j h
  cases j with
  | zero => exact h
  | succ j => obtain ⟨_, _, _, _, _, h'⟩ := form_cons h; exact ih j h'
theorem form_one {d : Nat} {s : St} {l : List St} (h : formT d (s :: l) = true) : formT d [s] = true := by
 obtain ⟨d', rfl, h1, h2, h3, _⟩ := form_cons h
 show ((headSt s && (formT d' s.f3 && formT d' s.f4)) && formT (d' + 1) []) = true
 rw [h1, h2, h3]; rfl
set_option maxRecDepth 100000 in
set_option maxHeartbeats 8000000 in
theorem all_con (k : Nat) : AllCon k := by
 induction k using Nat.strongRecOn with
 | _ k ih =>
 intro d l hl bs f r hr hf0 hf1 a gr gm w0 w A c hN hR hC hc
 have hmax : l.length ≤ 9223372036854775807 := by have := hC.2.1; omega
 have HI := Aside0.mk (And.intro hl (And.intro hC (And.intro hc (And.intro hmax ih))))
 have HS := Aside0.mk (And.intro hr (And.intro hf0 (And.intro hf1 (And.intro hN hR))))
 clear hl hr hf0 hf1 hN hR hC hc ih hmax
 go_enter Tryz.func37, Tryz.ntmps37
 go_wp2
 go_loopg [10] k (fun kq v10 W => ∃ (j : Nat) (bs' : List Int) (f' : Int), v10 = .int .i64 j ∧ Aside0 (runL kq bs' (l.drop j) f' = some r ∧ j ≤ l.length ∧ kq ≤ k ∧ 0 ≤ f' ∧ f' ≤ 100 ∧ Env w0 W gr gm a ∧ RunAt W gr gm bs' f' ∧ Ed (Fm gr gm) w W))
 case atStart => exact ⟨0, bs, f, rfl, ⟨HS.out.1, Nat.zero_le _, Nat.le_refl _, HS.out.2.1, HS.out.2.2.1, HS.out.2.2.2.1, HS.out.2.2.2.2, Ed.refl _ _⟩⟩
 case round =>
  obtain ⟨j, b', f', rfl, HR⟩ := hrel
  rename World => w2
  clear HS
  cases gk with
  | zero => have := HR.out.1; rw [runL] at this; cases this
  | succ k1 =>
  by_cases hj : j < l.length
  ·obtain ⟨ad, A7, c7, A8, c8, A9, c9, hA, e0, e1, e2, e3, e4, e5, e6, e7, e8, e9, hl7, hi7, hl8, hi8, hl9, hi9⟩ := at_T35 HI.out.2.1 (j : Int) (by omega) (by omega)
   cases hA
   have hkid : rd_T35 l (j : Int) = l[j] := by simp [rd_T35, hj]
   have hb := HR.out.2.2.2.2.2.1.b
   replace e0 := (hb.cell (World.block_lt_of_cell? w0 _ e0)).trans e0
   replace e1 := (hb.cell (World.block_lt_of_cell? w0 _ e1)).trans e1
   replace e2 := (hb.cell (World.block_lt_of_cell? w0 _ e2)).trans e2
   replace e3 := (hb.cell (World.block_lt_of_cell? w0 _ e3)).trans e3
   replace e4 := (hb.cell (World.block_lt_of_cell? w0 _ e4)).trans e4
   replace e5 := (hb.cell (World.block_lt_of_cell? w0 _ e5)).trans e5
   replace e6 := (hb.cell (World.block_lt_of_cell? w0 _ e6)).trans e6
   replace e7 := (hb.cell (World.block_lt_of_cell? w0 _ e7)).trans e7
   replace e8 := (hb.cell (World.block_lt_of_cell? w0 _ e8)).trans e8
   replace e9 := (hb.cell (World.block_lt_of_cell? w0 _ e9)).trans e9
   rw [hkid] at e0 e1 e2 e3 e4 e5 e6 e7 e8 e9 hl7 hi7 hl8 hi8 hl9 hi9
   simp only [Int.toNat_natCast] at e0 e1 e2 e3 e4 e5 e6 e7 e8 e9
   have hdr : l.drop j = l[j] :: l.drop (j + 1) := List.drop_eq_getElem_cons hj
   obtain ⟨x, hx⟩ : ∃ x, x = l[j] := ⟨_, rfl⟩
   rw [← hx] at e0 e1 e2 e3 e4 e5 e6 e7 e8 e9 hl7 hi7 hl8 hi8 hl9 hi9 hdr
   have hfd := form_drop l j HI.out.1
   have hrun := HR.out.1
   rw [hdr] at hfd hrun
   rw [runL_cons] at hrun
   obtain ⟨r1, hr1, hrun⟩ := Option.bind_eq_some_iff.1 hrun
   obtain ⟨d', hd', hh, h3, h4, _⟩ := form_cons hfd
   have hF1 := fits_step (form_one hfd) hr1 HR.out.2.2.2.1
   obtain ⟨T, v, fo, hdo⟩ := do_of k1 (fun k' hk' => HI.out.2.2.2.2 k' (by have := HR.out.2.2.1; omega)) d' x hh h3 h4 b' f' r1 hr1 HR.out.2.2.2.1 HR.out.2.2.2.2.1 a gr gm w0 A7 c7 A8 c8 A9 c9 hi7 hl7 hi8 hl8 hi9 hl9
   have HX := Aside0.mk (And.intro hj (And.intro hrun hF1))
   have HDO := Aside0.mk hdo
   clear hb hkid hx hi7 hl7 hi8 hl8 hi9 hl9 hdr hfd hrun hr1 hd' hh h3 h4 hF1 hdo
   go_upto_region 4 with (fail)
   have j1 := heap_alloc_new w2 (.cells (stCells x A7 c7 A8 c8 A9 c9) 35)
   have hb1 : Below w2.heap.size w2 (w2.alloc (.cells (stCells x A7 c7 A8 c8 A9 c9) 35)) := (Below.refl _ _).alloc (Nat.le_refl _) _
   unfold stCells at j1 hb1
   generalize w2.alloc (.cells #[.int .i64 x.f0, .int .i64 x.f1.f0, .int .i64 x.f1.f1, .int .i64 x.f2.f0, .int .i64 x.f2.f1, .int .i64 x.f2.f2.f0, .int .i64 x.f2.f2.f1, .slice A7 x.f2.f3.length c7, .slice A8 x.f3.length c8, .slice A9 x.f4.length c9] 35) = W1 at j1 hb1 ⊢
   have HW1 := Aside0.mk hb1
   clear e0 e1 e2 e3 e4 e5 e6 e7 e8 e9 hb1
   obtain ⟨e0, e1, e2, e3, e4, e5, e6, e7, e8, e9, _⟩ := cel10 j1
   clear j1
   go_wp2_with fail
   refine (doing_any x A7 c7 A8 c8 A9 c9 W1).mono ?_
   rintro e w3 ⟨rfl, hb2⟩
   rw [HDO.out.v']
   have H3 := Aside0.mk (show Env w0 w3 gr gm a ∧ RunAt w3 gr gm b' f' ∧ Ed (Fm gr gm) w w3 from
    ⟨(HR.out.2.2.2.2.2.1.below HW1.out).below hb2, (HR.out.2.2.2.2.2.2.1.below HW1.out).below hb2, (HR.out.2.2.2.2.2.2.2.trans (Ed.of_below HW1.out)).trans (Ed.of_below hb2)⟩)
   have hm := HDO.out.m
   have hep := HDO.out.e
   have HQ := Aside0.mk (HDO.out.c w3 H3.out.1 H3.out.2.1)
   clear hb2 HW1 e0 e1 e2 e3 e4 e5 e6 e7 e8 e9 HDO
   go_wp2_with fail
   refine HQ.out.mono ?_
   rintro e w4 ⟨rfl, hrr, hE⟩
   have H4 := Aside0.mk (show RunAt w4 gr gm r1.1 r1.2.2 ∧ Env w0 w4 gr gm a ∧ Ed (Fm gr gm) w w4 from ⟨hrr, H3.out.1.step hE, H3.out.2.2.trans hE⟩)
   clear hrr hE HQ H3 hm hep
   by_cases hc1 : r1.2.1 = 0
   ·have hrun := HX.out.2.1
    rw [if_pos hc1] at hrun
    have HN := Aside0.mk hrun
    rw [errOf, if_pos hc1]
    clear hc1 hrun
    go_wp2_with fail
    go_roundg k1
    case measure => have := HR.out.2.2.1; omega
    case rel => exact ⟨j + 1, r1.1, r1.2.2, congrArg (Value.int .i64) (by rw [wrap_in (by omega) (by have := HI.out.2.2.2.1; have := HX.out.1; omega)]; omega), ⟨HN.out, HX.out.1, by have := HR.out.2.2.1; omega, HX.out.2.2.lo, by have h1 := HX.out.2.2.hi; have h2 := HR.out.2.2.2.2.1; omega, H4.out.2.1, H4.out.1, H4.out.2.2⟩⟩
   ·have hrun := HX.out.2.1
    rw [if_neg hc1] at hrun
    injection hrun with hrun
    have hne : errOf a r1.2.1 = .iface 156 (.pointer (some a)) := by rw [errOf, if_neg hc1]
    have HF := Aside0.mk (show RunPost a gr gm r w (.returned (.iface 156 (.pointer (some a)))) w4 from by rw [← hrun]; exact ⟨by rw [hne], H4.out.1, H4.out.2.2⟩)
    rw [hne]
    clear hc1 hrun hne
    go_wp2
    go_ret
    exact HF.out
  ·have hjl : l.drop j = [] := List.drop_of_length_le (by omega)
   have hrun := HR.out.1
   rw [hjl, runL_nil] at hrun
   injection hrun with hrun
   have HF := Aside0.mk (show RunPost a gr gm r w (.returned .nilIface) w2 from by rw [← hrun]; exact ⟨rfl, HR.out.2.2.2.2.2.2.1, HR.out.2.2.2.2.2.2.2⟩)
   clear hjl hrun
   go_wp2
   go_ret
   exact HF.out
end Go.Proofs.YtendbgedpjcocaaGreatDoor.B
/- impl.StmtsRun: statements are run. -/
namespace Go.Proofs.YtendbgedpjcocaaGreatDoor.B
open Go Go.RowKit Go.Shelf Go.Proofs.YtendbgedpjcocaaGreatDoorW.PrintWords Go.Proofs.YtendbgedpjcocaaGreatDoorW.PrintLast Go.Proofs.YtendbgedpjcocaaGreatDoorW.PrintMore
set_option linter.unusedVariables false
abbrev Mem3 := List Int × List Int × List Int
abbrev Caps3 := (Option Addr × Nat) × (Option Addr × Nat) × (Option Addr × Nat)
/-- A memory's three rows out of its eighteen numbers. -/
def cut3 (bs : List Int) : Mem3 := (bs.take 6, (bs.drop 6).take 6, (bs.drop 12).take 6)
open Classical in
/-- What a list's run comes to. -/
noncomputable def runR (bs : List Int) (l : List St) (f : Int) : Res := if h : ∃ r, Run bs l f r then h.choose else (bs, 0, f)
theorem runR_is {bs : List Int} {l : List St} {f : Int} {r : Res} (h : Run bs l f r) : runR bs l f = r := by
 have hx : ∃ r, Run bs l f r := ⟨r, h⟩
 rw [runR, dif_pos hx]
 exact hx.choose_spec.one h
def stOkL (l : List St) : Bool := (countL 4 l 0).1
theorem stOk_form {l : List St} (h : stOkL l = true) : formT 4 l = true := by
 unfold stOkL at h
 rw [stOk_is, Bool.and_eq_true] at h
 exact h.1
theorem runR_run {l : List St} (hl : stOkL l = true) (bs : List Int) {f : Int} (hf : 0 ≤ f) : Run bs l f (runR bs l f) ∧ Fits f (runR bs l f) := by
 obtain ⟨r, hr, hF⟩ := run_total 4 l (stOk_form hl) f bs hf
 rw [runR_is hr]
 exact ⟨hr, hF⟩
def runOk (m : Mem3) (l : List St) (f : Int) : Bool := mOk m && stOkL l && decide (0 ≤ f ∧ f ≤ 100)
/-- What StmtsRun says: a memory, how it ends, what is left. -/
noncomputable def stRunV (m : Mem3) (l : List St) (f : Int) : Mem3 × Int × Int := if runOk m l f = true then (cut3 (runR (m.1 ++ m.2.1 ++ m.2.2) l f).1, (runR (m.1 ++ m.2.1 ++ m.2.2) l f).2.1, (runR (m.1 ++ m.2.1 ++ m.2.2) l f).2.2) else (([], [], []), 2, 0)
theorem MV.ofRows {W : World} {base : Nat} {v0 v1 v2 : Value} {bs : List Int} (hl : bs.length = 18) (h : MemRows W base v0 v1 v2 bs) : ∃ q : Caps3, Value.agg #[v0, v1, v2] = .agg (mA (cut3 bs) q) ∧ MV W (cut3 bs) q := by
 obtain ⟨A0, d0, e0⟩ := own_slice h.r0
 obtain ⟨A1, d1, e1⟩ := own_slice h.r1
 obtain ⟨A2, d2, e2⟩ := own_slice h.r2
 have R0 := own_R h.r0 (by simp; omega) (fun _ => True) (fun _ _ => trivial)
 have R1 := own_R h.r1 (by simp; omega) (fun _ => True) (fun _ _ => trivial)
 have R2 := own_R h.r2 (by simp; omega) (fun _ => True) (fun _ _ => trivial)
 subst e0 e1 e2
 have r0 := Kd.R_reads' R0
 have r1 := Kd.R_reads' R1
 have r2 := Kd.R_reads' R2
 refine ⟨((A0, d0), (A1, d1), (A2, d2)), ?_, ⟨by show (bs.take 6).length ≤ d0; rw [← r0.1]; exact r0.2.1, r0.2.2, by show ((bs.drop 6).take 6).length ≤ d1; rw [← r1.1]; exact r1.2.1, r1.2.2, by show ((bs.drop 12).take 6).length ≤ d2; rw [← r2.1]; exact r2.2.1, r2.2.2⟩⟩
 have l0 : (bs.take 6).length = 6 := by simp; omega
 have l1 : ((bs.drop 6).take 6).length = 6 := by simp; omega
 have l2 : ((bs.drop 12).take 6).length = 6 := by simp; omega
 simp only [mA, cut3, l0, l1, l2]
set_option maxRecDepth 100000 in
set_option maxHeartbeats 4000000 in
theorem ended_any (g : Nat) (bs : List Int) (f c : Int) (hc : c = 0 ∨ c = 1 ∧ f = 0) (a : Addr) (w : World) (hm : MemAt w g bs) (he : ErrAt w a) :
  Calls Tryz.prog 38 #[.pointer (some ⟨g, 0, none⟩), .int .i64 f, errOf a c] w fun e w' => ∃ q : Caps3, e = .returned (.tuple #[.agg (mA (cut3 bs) q), .int .i64 c, .int .i64 f]) ∧ MV w' (cut3 bs) q ∧ Below w.heap.size w w' := by
 obtain ⟨w1, hw1⟩ : ∃ W, W = w.alloc (.cells #[.slice none 0 0, .slice none 0 0, .slice none 0 0] 30 (0, 0)) := ⟨_, rfl⟩
 have hB : Below w.heap.size w w1 := by rw [hw1]; exact (Below.refl _ _).alloc (Nat.le_refl _) _
 have hz1 : w1.heap.size = w.heap.size + 1 := by rw [hw1]; simp
 have H1 := Aside0.mk (show Box w1 w.heap.size 30 #[.slice none 0 0, .slice none 0 0, .slice none 0 0] ∧ MemAt w1 g bs ∧ Below w.heap.size w w1 ∧ ErrAt w1 a from
  ⟨by rw [hw1]; exact heap_alloc_new _ _, hm.below hB, hB, he.below hB⟩)
 have HL := Aside0.mk hm.n
 have HC := Aside0.mk hc
 clear hm hB he hz1 hc
 obtain ⟨ev, hev⟩ : ∃ v, v = errOf a c := ⟨_, rfl⟩
 rw [← hev]
 have HEV := Aside0.mk hev
 clear hev
 go_enter Tryz.func38, Tryz.ntmps38
 go_upto_region 1 with fail
 rw [← hw1]
 clear hw1
 have ce : w1.cell? ⟨0, 0, none⟩ = some (.iface 156 (.pointer (some a))) := H1.out.2.2.2
 have HI := Aside0.mk (is_any a c w1)
 rw [← HEV.out] at HI
 go_wp2_with fail
 refine HI.out.mono ?_
 rintro e w2 ⟨rfl, rfl⟩
 clear HI ce
 by_cases h0 : c = 0
 ·have b0 : (c != 0) = false := by simp [h0]
  have HF := Aside0.mk h0
  rw [b0]
  clear h0 b0
  go_wp2_with fail
  refine (mem_any g bs w2 H1.out.2.1).mono ?_
  rintro e w3 ⟨v0, v1, v2, rfl, hR, hb⟩
  have k := blk_below H1.out.1 hb
  have HR := Aside0.mk (And.intro hR (And.intro k (H1.out.2.2.1.trans (hb.mono H1.out.2.2.1.size))))
  obtain ⟨A0, d0, e0⟩ := own_slice hR.r0
  obtain ⟨A1, d1, e1⟩ := own_slice hR.r1
  obtain ⟨A2, d2, e2⟩ := own_slice hR.r2
  subst e0 e1 e2
  clear hR hb k
  go_wp2_with (refine boxPut_ rfl rfl rfl rfl #[.slice A0 6 d0, .slice A1 6 d1, .slice A2 6 d2] rfl HR.out.2.1 rfl (by kernel_rfl) (by simp [Value.oneCell']) ?_; intro w4 hbx hput)
  refine bodyPost_ret (results_ctt rfl _ _ w.heap.size 30 #[.slice A0 6 d0, .slice A1 6 d1, .slice A2 6 d2] (0, 0) _ rfl hbx Tryz.underlying30 rfl (by kernel_rfl)) rfl ?_
  obtain ⟨q, hq, hMV⟩ := MV.ofRows HL.out (HR.out.1.put1 HR.out.2.1 (by decide) hput)
  rw [hq]
  exact ⟨q, by rw [HF.out]; rfl, hMV, hput.below HR.out.2.2 (Nat.le_refl _)⟩
 ·have b0 : (c != 0) = true := by simp [h0]
  have HF := Aside0.mk (show c = 1 ∧ f = 0 by rcases HC.out with h | h; exact absurd h h0; exact h)
  rw [b0]
  clear h0 b0
  go_wp2_with fail
  refine (mem_any g bs w2 H1.out.2.1).mono ?_
  rintro e w3 ⟨v0, v1, v2, rfl, hR, hb⟩
  have k := blk_below H1.out.1 hb
  have HR := Aside0.mk (And.intro hR (And.intro k (H1.out.2.2.1.trans (hb.mono H1.out.2.2.1.size))))
  obtain ⟨A0, d0, e0⟩ := own_slice hR.r0
  obtain ⟨A1, d1, e1⟩ := own_slice hR.r1
  obtain ⟨A2, d2, e2⟩ := own_slice hR.r2
  subst e0 e1 e2
  clear hR hb k
  go_wp2_with (refine boxPut_ rfl rfl rfl rfl #[.slice A0 6 d0, .slice A1 6 d1, .slice A2 6 d2] rfl HR.out.2.1 rfl (by kernel_rfl) (by simp [Value.oneCell']) ?_; intro w4 hbx hput)
  refine bodyPost_ret (results_ctt rfl _ _ w.heap.size 30 #[.slice A0 6 d0, .slice A1 6 d1, .slice A2 6 d2] (0, 0) _ rfl hbx Tryz.underlying30 rfl (by kernel_rfl)) rfl ?_
  obtain ⟨q, hq, hMV⟩ := MV.ofRows HL.out (HR.out.1.put1 HR.out.2.1 (by decide) hput)
  rw [hq]
  exact ⟨q, by rw [HF.out.1, HF.out.2]; rfl, hMV, hput.below HR.out.2.2 (Nat.le_refl _)⟩
end Go.Proofs.YtendbgedpjcocaaGreatDoor.B
/- impl.StmtsRun. -/
namespace Go.Proofs.YtendbgedpjcocaaGreatDoor.B
open Go Go.RowKit Go.Shelf Go.Proofs.YtendbgedpjcocaaGreatDoorW.PrintWords Go.Proofs.YtendbgedpjcocaaGreatDoorW.PrintLast Go.Proofs.YtendbgedpjcocaaGreatDoorW.PrintMore
set_option linter.unusedVariables false
theorem stOkI_any (l : List St) (A : Option Addr) (c : Nat) (w : World) (hC : Kd.C stK w A l.length l) (hc : l.length ≤ c) : Calls Tryz.prog 36 #[.slice A l.length c] w fun e w' => e = .returned (.bool (stOkL l)) ∧ Below w.heap.size w w' :=
 impl_StmtsOk.calls A c l _ w hC hc rfl
theorem run_len {k : Nat} {bs : List Int} {l : List St} {f : Int} {r : Res} (h : runL k bs l f = some r) : r.1.length = bs.length :=
 run_keeps (fun b => b.length = bs.length) k l (fun _ => True) (fun _ _ _ _ => trivial) (fun _ _ _ _ => trivial) (fun s _ _ b hb => by rw [putB_len]; exact hb) (fun _ _ => trivial) bs f r rfl h
theorem mV_none (W : World) : MV W (([], [], []) : Mem3) ((none, 0), (none, 0), (none, 0)) :=
 ⟨Nat.le_refl _, (Kd.R_reads' (Kd.R_nil (Kd.int .i64) 3 W 0 (fun _ => True))).2.2, Nat.le_refl _, (Kd.R_reads' (Kd.R_nil (Kd.int .i64) 3 W 0 (fun _ => True))).2.2, Nat.le_refl _, (Kd.R_reads' (Kd.R_nil (Kd.int .i64) 3 W 0 (fun _ => True))).2.2⟩
theorem C_put1 {W W' : World} {g : Nat} {T : TypeId} {cs : Array Value} (hb : Box W g T cs) (hn : ∀ (i : Nat) (n : Int), cs[i]? ≠ some (.int .i64 n)) (hp : Put1 g W W') {A : Option Addr} {n : Nat} {xs : List Int} (h : Kd.C (Kd.int .i64) W A n xs) : Kd.C (Kd.int .i64) W' A n xs := by
 obtain ⟨h1, h2, h3⟩ := h
 refine ⟨h1, h2, fun hn0 => ?_⟩
 obtain ⟨a, ha, hl⟩ := h3 hn0
 refine ⟨a, ha, fun j p hj => ?_⟩
 obtain ⟨c, hlen, hk, hc⟩ := hl j p hj
 refine ⟨c, hlen, hk, fun i u hu => ?_⟩
 have hq := hc i u hu
 have hu' : u = .int .i64 p := by
  have hk' : c = [.int .i64 p] := hk
  rw [hk'] at hu
  cases i with
  | zero => simpa using hu.symm
  | succ i => simp at hu
 generalize a.add _ = q at hq ⊢
 by_cases hg : q.block = g
 ·exfalso
  unfold World.cell? at hq
  rw [hg, hb] at hq
  rw [hu'] at hq
  have hq' : (if q.spot.isSome = true then none else cs[q.off]?) = some (.int .i64 p) := hq
  split at hq'
  ·cases hq'
  ·exact hn _ _ hq'
 ·unfold World.cell? at hq ⊢
  rw [hp.far _ hg]
  exact hq
theorem no_int (A0 A1 A2 : Option Addr) (n0 n1 n2 c0 c1 c2 : Nat) (i : Nat) (n : Int) : (#[Value.slice A0 n0 c0, .slice A1 n1 c1, .slice A2 n2 c2] : Array Value)[i]? ≠ some (.int .i64 n) := by
 match i with
 | 0 => simp
 | 1 => simp
 | 2 => simp
 | i + 3 => simp
theorem MV.put1 {W W' : World} {g : Nat} {T : TypeId} {A0 A1 A2 : Option Addr} {n0 n1 n2 c0 c1 c2 : Nat} {m : Mem3} {q : Caps3} (h : MV W m q) (hb : Box W g T #[.slice A0 n0 c0, .slice A1 n1 c1, .slice A2 n2 c2]) (hp : Put1 g W W') : MV W' m q :=
 ⟨h.l0, C_put1 hb (no_int _ _ _ _ _ _ _ _ _) hp h.c0, h.l1, C_put1 hb (no_int _ _ _ _ _ _ _ _ _) hp h.c1, h.l2, C_put1 hb (no_int _ _ _ _ _ _ _ _ _) hp h.c2⟩
set_option maxRecDepth 100000 in
set_option maxHeartbeats 8000000 in
theorem stRun_any (m : Mem3) (l : List St) (f : Int) (p : Caps3) (A : Option Addr) (c : Nat) (a : Addr) (w : World) (hE : ErrAt w a) (hM : MV w m p) (hC : Kd.C stK w A l.length l) (hc : l.length ≤ c) :
  Calls Tryz.prog 11 #[.agg (mA m p), .slice A l.length c, .int .i64 f] w fun e w' => ∃ q : Caps3, e = .returned (.tuple #[.agg (mA (stRunV m l f).1 q), .int .i64 (stRunV m l f).2.1, .int .i64 (stRunV m l f).2.2]) ∧ MV w' (stRunV m l f).1 q ∧ Below w.heap.size w w' := by
 obtain ⟨w1, hw1⟩ : ∃ W, W = (w.alloc (.cells (mA m p) 30 (0, 0))).alloc (.cells #[.slice none 0 0, .slice none 0 0, .slice none 0 0] 30 (0, 0)) := ⟨_, rfl⟩
 obtain ⟨hs, k1, k2, hB⟩ := two_blocks' w (.cells (mA m p) 30 (0, 0)) (.cells #[.slice none 0 0, .slice none 0 0, .slice none 0 0] 30 (0, 0))
 rw [← hw1] at hs k1 k2 hB
 have H1 := Aside0.mk (show Box w1 w.heap.size 30 (mA m p) ∧ Box w1 (w.heap.size + 1) 30 mZ ∧ Below w.heap.size w w1 ∧ ErrAt w a ∧ MV w m p ∧ Kd.C stK w A l.length l ∧ l.length ≤ c from ⟨k1, k2, hB, hE, hM, hC, hc⟩)
 clear hs k1 k2 hB hE hM hC hc
 unfold mA at hw1
 unfold mA
 obtain ⟨V, hV⟩ : ∃ V, V = stRunV m l f := ⟨_, rfl⟩
 rw [← hV]
 have HV0 := Aside0.mk hV
 clear hV
 have leave : ∀ W : World, Below w.heap.size w W → Box W (w.heap.size + 1) 30 mZ → runOk m l f = false → ∃ q : Caps3, (Ending.returned (.tuple #[.agg mZ, .int .i64 2, .int .i64 0])) = .returned (.tuple #[.agg (mA V.1 q), .int .i64 V.2.1, .int .i64 V.2.2]) ∧ MV W V.1 q ∧ Below w.heap.size w W := by
  intro W hW _ h
  have e : V = (([], [], []), 2, 0) := by rw [HV0.out, stRunV, h]; rfl
  rw [e]
  exact ⟨((none, 0), (none, 0), (none, 0)), rfl, mV_none W, hW⟩
 have HL := Aside0.mk leave
 clear leave
 go_enter Tryz.func11, Tryz.ntmps11
 go_upto_region 1 with fail
 rw [← hw1]
 clear hw1
 have lb0 := H1.out.1
 go_wp2_with ((with_reducible refine gate_dst (N := 14) rfl ?_); refine getM_ rfl rfl rfl rfl lb0 ?_)
 clear lb0
 have hmv := MV.last _ _ _ _ H1.out.2.2.1 H1.out.2.2.2.2.1
 refine (readMem_new m.1 m.2.1 m.2.2 p.1.1 p.2.1.1 p.2.2.1 p.1.2 p.2.1.2 p.2.2.2 w1 hmv.c0 hmv.c1 hmv.c2 hmv.l0 hmv.l1 hmv.l2).mono ?_
 clear hmv
 rintro e w2 ⟨hr, hb2⟩
 have H2 := Aside0.mk (show Box w2 (w.heap.size + 1) 30 mZ ∧ Below w.heap.size w w2 ∧ w.heap.size ≤ w1.heap.size from ⟨blk_below H1.out.2.1 hb2, H1.out.2.2.1.trans (hb2.mono H1.out.2.2.1.size), H1.out.2.2.1.size⟩)
 clear hb2
 rcases hr with ⟨hv, g, hg, rfl, hm⟩ | ⟨hv, rfl⟩
 rotate_left
 ·have HV := Aside0.mk (show runOk m l f = false by unfold runOk mOk memOkL; rw [hv]; rfl)
  have lb := H2.out.1
  clear hv
  go_wp2_with (refine boxPut_ rfl rfl rfl rfl mZ rfl lb rfl (by kernel_rfl) (by simp [mZ, Value.oneCell']) ?_; intro w4 hbx hput)
  refine bodyPost_ret (results_ctt rfl _ _ (w.heap.size + 1) 30 mZ (0, 0) _ rfl hbx Tryz.underlying30 rfl (by kernel_rfl)) rfl ?_
  exact HL.out w4 (hput.below H2.out.2.1 (Nat.le_succ _)) hbx HV.out
 ·have HM := Aside0.mk (And.intro hv (And.intro hg hm))
  clear hv hg hm
  go_wp2_with fail
  refine (stOkI_any l A c w2 (Kd.C_below H1.out.2.2.2.2.2.1 H2.out.2.1) H1.out.2.2.2.2.2.2).mono ?_
  rintro e w3 ⟨rfl, hb3⟩
  have H3 := Aside0.mk (show Box w3 (w.heap.size + 1) 30 mZ ∧ Below w.heap.size w w3 ∧ MemAt w3 g (m.1 ++ m.2.1 ++ m.2.2) from ⟨blk_below H2.out.1 hb3, H2.out.2.1.trans (hb3.mono H2.out.2.1.size), HM.out.2.2.below hb3⟩)
  clear hb3
  obtain ⟨ok, hok⟩ : ∃ ok, ok = stOkL l := ⟨_, rfl⟩
  rw [← hok]
  have HO := Aside0.mk hok
  clear hok
  have lb := H3.out.1
  cases ok with
  | false =>
   have HV := Aside0.mk (show runOk m l f = false by unfold runOk; rw [← HO.out]; simp)
   go_wp2_with (refine boxPut_ rfl rfl rfl rfl mZ rfl lb rfl (by kernel_rfl) (by simp [mZ, Value.oneCell']) ?_; intro w4 hbx hput)
   refine bodyPost_ret (results_ctt rfl _ _ (w.heap.size + 1) 30 mZ (0, 0) _ rfl hbx Tryz.underlying30 rfl (by kernel_rfl)) rfl ?_
   exact HL.out w4 (hput.below H3.out.2.1 (Nat.le_succ _)) hbx HV.out
  | true =>
   by_cases h0 : f < 0
   ·have HV := Aside0.mk (show runOk m l f = false by unfold runOk; rw [decide_eq_false (by omega : ¬ (0 ≤ f ∧ f ≤ 100))]; simp)
    have b0 : decide (f < 0) = true := decide_eq_true h0
    go_wp2_with (refine boxPut_ rfl rfl rfl rfl mZ rfl lb rfl (by kernel_rfl) (by simp [mZ, Value.oneCell']) ?_; intro w4 hbx hput)
    refine bodyPost_ret (results_ctt rfl _ _ (w.heap.size + 1) 30 mZ (0, 0) _ rfl hbx Tryz.underlying30 rfl (by kernel_rfl)) rfl ?_
    exact HL.out w4 (hput.below H3.out.2.1 (Nat.le_succ _)) hbx HV.out
   have b0 : decide (f < 0) = false := decide_eq_false h0
   by_cases h1 : 100 < f
   ·have HV := Aside0.mk (show runOk m l f = false by unfold runOk; rw [decide_eq_false (by omega : ¬ (0 ≤ f ∧ f ≤ 100))]; simp)
    have b1 : decide (100 < f) = true := decide_eq_true h1
    go_wp2_with (refine boxPut_ rfl rfl rfl rfl mZ rfl lb rfl (by kernel_rfl) (by simp [mZ, Value.oneCell']) ?_; intro w4 hbx hput)
    refine bodyPost_ret (results_ctt rfl _ _ (w.heap.size + 1) 30 mZ (0, 0) _ rfl hbx Tryz.underlying30 rfl (by kernel_rfl)) rfl ?_
    exact HL.out w4 (hput.below H3.out.2.1 (Nat.le_succ _)) hbx HV.out
   have b1 : decide (100 < f) = false := decide_eq_false h1
   have hok : runOk m l f = true := by
    unfold runOk mOk memOkL
    rw [HM.out.1, ← HO.out, decide_eq_true (by omega : 0 ≤ f ∧ f ≤ 100)]; rfl
   obtain ⟨⟨kk, hk⟩, hF⟩ := runR_run HO.out.symm (m.1 ++ m.2.1 ++ m.2.2) (show 0 ≤ f by omega)
   obtain ⟨r, hr⟩ : ∃ r, r = runR (m.1 ++ m.2.1 ++ m.2.2) l f := ⟨_, rfl⟩
   have he : V = (cut3 r.1, r.2.1, r.2.2) := by rw [HV0.out, stRunV, hok, hr]; rfl
   rw [← hr] at hk hF
   have hl18 : r.1.length = 18 := (run_len hk).trans H3.out.2.2.n
   have HVV := Aside0.mk he
   have HF := Aside0.mk (And.intro (And.intro hk hF) (And.intro hl18 (And.intro (show 0 ≤ f by omega) (show f ≤ 100 by omega))))
   have HFO := Aside0.mk (stOk_form HO.out.symm)
   clear hok hk hF hr he hl18 h0 h1 lb HL
   go_upto_region 5 with fail
   obtain ⟨w4, hw4⟩ : ∃ W, W = w3.alloc (.cells #[.pointer (some ⟨g, 0, none⟩), .int .i64 f] 69 (0, 0)) := ⟨_, rfl⟩
   rw [← hw4]
   have hb4 : Below w3.heap.size w3 w4 := by rw [hw4]; exact (Below.refl _ _).alloc (Nat.le_refl _) _
   have hR4 : RunAt w4 w3.heap.size g (m.1 ++ m.2.1 ++ m.2.2) f := ⟨H3.out.2.2.below hb4, by rw [hw4]; exact heap_alloc_new _ _⟩
   have hB4 : Below w.heap.size w w4 := H3.out.2.1.trans (hb4.mono H3.out.2.1.size)
   have hgl := blk_lt H3.out.2.2.b
   have hgw : w1.heap.size ≤ g := HM.out.2.1
   have hne : w3.heap.size ≠ g := by omega
   have hnq : w.heap.size + 1 ≠ g := by have := blk_lt H1.out.2.1; omega
   have hnr : w.heap.size + 1 ≠ w3.heap.size := by have := blk_lt H3.out.1; omega
   have hN4 : Env w w4 w3.heap.size g a := ⟨H3.out.2.1.size, Nat.le_trans H2.out.2.2 hgw, hne, H1.out.2.2.2.1, hB4⟩
   have H4 := Aside0.mk (show Box w4 (w.heap.size + 1) 30 mZ ∧ Env w w4 w3.heap.size g a ∧ ¬ Fm w3.heap.size g (w.heap.size + 1) from ⟨blk_below H3.out.1 hb4, hN4, fun h => by rcases h with h | h; exact hnr h; exact hnq h⟩)
   have HA := Aside0.mk (all_con kk 4 l HFO.out (m.1 ++ m.2.1 ++ m.2.2) f r HF.out.1.1 HF.out.2.2.1 HF.out.2.2.2 a w3.heap.size g w w4 A c hN4 hR4 H1.out.2.2.2.2.2.1 H1.out.2.2.2.2.2.2)
   obtain ⟨gr, hgr⟩ : ∃ gr, gr = w3.heap.size := ⟨_, rfl⟩
   rw [← hgr] at HA H4 ⊢
   clear hw4 hb4 hR4 hB4 hgl hgw hne hnq hnr hN4 hgr
   go_wp2_with fail
   refine HA.out.mono ?_
   clear HA
   rintro e w5 ⟨rfl, hR5, hE5⟩
   have H5 := Aside0.mk (show Box w5 (w.heap.size + 1) 30 mZ ∧ Env w w5 gr g a ∧ RunAt w5 gr g r.1 r.2.2 from ⟨blk_ed H4.out.1 hE5 H4.out.2.2, H4.out.2.1.step hE5, hR5⟩)
   have c1 : w5.cell? ⟨gr, 1, none⟩ = some (.int .i64 r.2.2) := by rw [blk_cell hR5.r]; rfl
   clear hR5 hE5
   obtain ⟨ev, hev⟩ : ∃ ev, ev = errOf a r.2.1 := ⟨_, rfl⟩
   have HQ := Aside0.mk (ended_any g r.1 r.2.2 r.2.1 HF.out.1.2.how a w5 H5.out.2.2.m H5.out.2.1.err)
   rw [← hev] at HQ ⊢
   clear hev
   go_wp2_with fail
   refine HQ.out.mono ?_
   clear HQ
   rintro e w6 ⟨q, rfl, hMV, hb6⟩
   have H6 := Aside0.mk (show MV w6 (cut3 r.1) q ∧ Below w.heap.size w w6 from ⟨hMV, H5.out.2.1.b.trans (hb6.mono H5.out.2.1.b.size)⟩)
   have lb := blk_below H5.out.1 hb6
   clear hMV hb6 c1
   go_wp2_with (refine boxPut_ rfl rfl rfl rfl (mA (cut3 r.1) q) rfl lb rfl (by kernel_rfl) (mA_one _ _) ?_; intro w7 hbx hput)
   refine bodyPost_ret (results_ctt rfl _ _ (w.heap.size + 1) 30 (mA (cut3 r.1) q) (0, 0) _ rfl hbx Tryz.underlying30 rfl (by kernel_rfl)) rfl ?_
   rw [HVV.out]
   exact ⟨q, rfl, MV.put1 H6.out.1 lb hput, hput.below H6.out.2 (Nat.le_succ _)⟩
end Go.Proofs.YtendbgedpjcocaaGreatDoor.B
/- The specification's memory while statements are run: three rows of its own. -/
namespace Go.Proofs.YtendbgedpjcocaaGreatDoor.B
open Go Go.RowKit Go.Shelf Go.Lib Go.Proofs.YtendbgedpjcocaaGreatDoorW.PrintWords Go.Proofs.YtendbgedpjcocaaGreatDoorW.PrintLast Go.Proofs.YtendbgedpjcocaaGreatDoorW.PrintMore
set_option linter.unusedVariables false
/-- Elder blocks stay, but for rows of numbers. -/
structure KeepI (w w' : World) : Prop where
 size : w.heap.size ≤ w'.heap.size
 keep : ∀ (b : Nat) (cs : Array Value) (t : TypeId), t ≠ 3 → w.heap[b]? = some (.cells cs t (0, 0)) → w'.heap[b]? = some (.cells cs t (0, 0))
theorem KeepI.trans {w w1 w2 : World} (h : KeepI w w1) (k : KeepI w1 w2) : KeepI w w2 := ⟨Nat.le_trans h.size k.size, fun b cs t ht hb => k.keep b cs t ht (h.keep b cs t ht hb)⟩
theorem KeepI.of_below {w w1 : World} (h : Below w.heap.size w w1) : KeepI w w1 := ⟨h.size, fun b cs t _ hb => (h.block b (blk_lt hb)).trans hb⟩
theorem KeepI.put1 {w w1 w2 : World} {g : Nat} (h : KeepI w w1) (hp : Put1 g w1 w2) (hg : w.heap.size ≤ g) : KeepI w w2 :=
 ⟨by rw [hp.size]; exact h.size, fun b cs t ht hb => (hp.far b (fun e => by have := blk_lt hb; omega)).trans (h.keep b cs t ht hb)⟩
theorem eighteen (bs : List Int) (h : bs.length = 18) : ∃ b0 b1 b2 b3 b4 b5 b6 b7 b8 b9 b10 b11 b12 b13 b14 b15 b16 b17, bs = [b0, b1, b2, b3, b4, b5, b6, b7, b8, b9, b10, b11, b12, b13, b14, b15, b16, b17] := by
 match bs, h with
 | [b0, b1, b2, b3, b4, b5, b6, b7, b8, b9, b10, b11, b12, b13, b14, b15, b16, b17], _ => exact ⟨_, _, _, _, _, _, _, _, _, _, _, _, _, _, _, _, _, _, rfl⟩
theorem cut3_all (bs : List Int) (h : bs.length = 18) : (cut3 bs).1 ++ (cut3 bs).2.1 ++ (cut3 bs).2.2 = bs := by
 obtain ⟨b0, b1, b2, b3, b4, b5, b6, b7, b8, b9, b10, b11, b12, b13, b14, b15, b16, b17, rfl⟩ := eighteen bs h
 rfl
theorem cut3_len (bs : List Int) (h : bs.length = 18) : (cut3 bs).1.length = 6 ∧ (cut3 bs).2.1.length = 6 ∧ (cut3 bs).2.2.length = 6 := by
 obtain ⟨b0, b1, b2, b3, b4, b5, b6, b7, b8, b9, b10, b11, b12, b13, b14, b15, b16, b17, rfl⟩ := eighteen bs h
 exact ⟨rfl, rfl, rfl⟩
theorem own_blk {W : World} {base : Nat} {e : TypeId} {v : Value} {xs : List Value} (h : W.ownsRow base e 1 v 6 xs) : ∃ g cap, v = .slice (some ⟨g, 0, none⟩) 6 cap ∧ base ≤ g ∧ ∃ cells, W.heap[g]? = some (.cells cells e (0, 0)) := by
 rcases h.2 with ⟨_, h6⟩ | ⟨g, cap, cur, rfl, hg, hh, _⟩
 ·cases h6
 ·exact ⟨g, cap, rfl, hg, cur, hh⟩
theorem stepSkipB {P : Program} {ops : Array Oper} {o : Oper} {b : Act} {W W' : World} {Ψ : Value → World → Prop} (hw : Region.wanted o (yielded ops b.tmps) = true) (hrun : (execOp b.eval o).run P W = .ok .skip W') (h : Ψ undef W') : StepOK P ops o b W Ψ := fun K Q hK => by
 rw [if_pos hw]
 unfold Oper.wp
 rw [hrun]
 exact hK _ _ h
theorem numCutS_any (n : Int) (w : World) : Calls Tryz.prog 76 #[.int .i64 n] w fun e w' => e = .returned (.int .i64 (cutL n)) ∧ Below w.heap.size w w' :=
 (spec_NumCut.calls n (cutL n) w ((cut_eq n).trans (cutI n))).mono fun e w' h => ⟨h.1, by first | exact h.2 | exact h.2.below⟩
/-- What a put into one of three rows leaves. -/
structure PutTo (w0 w : World) (u0 u1 u2 : Value) (bs : List Int) (W : World) : Prop where
 b3 : Box W w.heap.size 30 #[u0, u1, u2]
 b6 : Box W (w.heap.size + 1 + 1) 30 mZ
 m : MemRows W w0.heap.size u0 u1 u2 bs
 b : Below w0.heap.size w0 W
 k : KeepI w W
theorem box_setCell {W : World} {b T g i : Nat} {cs : Array Value} {u : Value} (h : Box W b T cs) (hne : b ≠ g) : Box (W.setCell ⟨g, i, none⟩ u) b T cs := (Below.heap_setCell W _ _ b hne).trans h
theorem box_ne {W : World} {b T g : Nat} {cs cells : Array Value} {e : TypeId} (h : Box W b T cs) (hc : W.heap[g]? = some (.cells cells e (0, 0))) (hne : T ≠ e) : b ≠ g := by
 rintro rfl
 rw [h] at hc
 injection hc with hc
 injection hc with _ hc
 exact hne hc
theorem keep_setCell {w W : World} {g i : Nat} {cells : Array Value} {u : Value} (h : KeepI w W) (hc : W.heap[g]? = some (.cells cells 3 (0, 0))) : KeepI w (W.setCell ⟨g, i, none⟩ u) :=
 ⟨by simpa [World.setCell] using h.size, fun b cs t ht hb => (Below.heap_setCell W _ _ b (box_ne (h.keep b cs t ht hb) hc ht)).trans (h.keep b cs t ht hb)⟩
theorem cut_set1 (bs : List Int) (h : bs.length = 18) (a : Int) (n : Int) (ha : a = 0 ∨ a = 1 ∨ a = 2 ∨ a = 3 ∨ a = 4 ∨ a = 5) : (bs.set ((2 - 1) * 6 + a).toNat n).take 6 = bs.take 6 ∧ ((bs.set ((2 - 1) * 6 + a).toNat n).drop 6).take 6 = ((bs.drop 6).take 6).set a.toNat n ∧ ((bs.set ((2 - 1) * 6 + a).toNat n).drop 12).take 6 = (bs.drop 12).take 6 := by
 obtain ⟨b0, b1, b2, b3, b4, b5, b6, b7, b8, b9, b10, b11, b12, b13, b14, b15, b16, b17, rfl⟩ := eighteen bs h
 rcases ha with rfl | rfl | rfl | rfl | rfl | rfl <;> exact ⟨rfl, rfl, rfl⟩
theorem cut_set2 (bs : List Int) (h : bs.length = 18) (a : Int) (n : Int) (ha : a = 0 ∨ a = 1 ∨ a = 2 ∨ a = 3 ∨ a = 4 ∨ a = 5) : (bs.set ((3 - 1) * 6 + a).toNat n).take 6 = bs.take 6 ∧ ((bs.set ((3 - 1) * 6 + a).toNat n).drop 6).take 6 = (bs.drop 6).take 6 ∧ ((bs.set ((3 - 1) * 6 + a).toNat n).drop 12).take 6 = ((bs.drop 12).take 6).set a.toNat n := by
 obtain ⟨b0, b1, b2, b3, b4, b5, b6, b7, b8, b9, b10, b11, b12, b13, b14, b15, b16, b17, rfl⟩ := eighteen bs h
 rcases ha with rfl | rfl | rfl | rfl | rfl | rfl <;> exact ⟨rfl, rfl, rfl⟩
set_option maxRecDepth 100000 in
set_option maxHeartbeats 4000000 in
theorem put_at (bs : List Int) (h18 : bs.length = 18) (k a n : Int) (hp : putsL k a = true) (v0 v1 v2 : Value) (w0 w : World) (hB : Below w0.heap.size w0 w) (hR : MemRows w w0.heap.size v0 v1 v2 bs) :
  Calls Tryz.prog 70 #[.agg #[v0, v1, v2], .agg #[.int .i64 k, .int .i64 a], .int .i64 n] w fun e w' => ∃ u0 u1 u2, e = .returned (.agg #[u0, u1, u2]) ∧ MemRows w' w0.heap.size u0 u1 u2 (putB bs k a n) ∧ Below w0.heap.size w0 w' ∧ KeepI w w' := by
 have mixed : Tryz.prog.follows .mixedOrders = true := rfl
 have hk1 : k ≠ 1 := by
  intro e
  unfold putsL at hp
  rw [e] at hp
  simp at hp
 have hA : addrOkL k a = true := by unfold putsL at hp; simp only [Bool.and_eq_true] at hp; exact hp.1
 obtain ⟨hk, ha⟩ := addr_cases hA
 have hput : putB bs k a n = bs.set ((k - 1) * 6 + a).toNat (cutL n) := by rw [putB, if_pos hp]
 rw [hput]
 clear hput hp hA
 obtain ⟨g0, d0, rfl, hg0, _⟩ := own_blk hR.r0
 obtain ⟨g1, d1, rfl, hg1, _⟩ := own_blk hR.r1
 obtain ⟨g2, d2, rfl, hg2, _⟩ := own_blk hR.r2
 obtain ⟨w1, hw1⟩ : ∃ W, W = ((w.alloc (.cells #[.slice (some ⟨g0, 0, none⟩) 6 d0, .slice (some ⟨g1, 0, none⟩) 6 d1, .slice (some ⟨g2, 0, none⟩) 6 d2] 30 (0, 0))).alloc (.cells #[.int .i64 k, .int .i64 a] 24 (0, 0))).alloc (.cells #[.slice none 0 0, .slice none 0 0, .slice none 0 0] 30 (0, 0)) := ⟨_, rfl⟩
 obtain ⟨hs, k1, k2, k3, hB1⟩ := three_blk w (.cells #[.slice (some ⟨g0, 0, none⟩) 6 d0, .slice (some ⟨g1, 0, none⟩) 6 d1, .slice (some ⟨g2, 0, none⟩) 6 d2] 30 (0, 0)) (.cells #[.int .i64 k, .int .i64 a] 24 (0, 0)) (.cells #[.slice none 0 0, .slice none 0 0, .slice none 0 0] 30 (0, 0))
 rw [← hw1] at hs k1 k2 k3 hB1
 have H1 := Aside0.mk (show Box w1 w.heap.size 30 #[.slice (some ⟨g0, 0, none⟩) 6 d0, .slice (some ⟨g1, 0, none⟩) 6 d1, .slice (some ⟨g2, 0, none⟩) 6 d2] ∧ Box w1 (w.heap.size + 1) 24 #[.int .i64 k, .int .i64 a] ∧ Box w1 (w.heap.size + 1 + 1) 30 mZ ∧
   MemRows w1 w0.heap.size (.slice (some ⟨g0, 0, none⟩) 6 d0) (.slice (some ⟨g1, 0, none⟩) 6 d1) (.slice (some ⟨g2, 0, none⟩) 6 d2) bs ∧ Below w0.heap.size w0 w1 ∧ KeepI w w1 ∧ w0.heap.size ≤ g1 ∧ w0.heap.size ≤ g2 from
  ⟨k1, k2, k3, hR.below hB1, hB.trans (hB1.mono hB.size), KeepI.of_below hB1, hg1, hg2⟩)
 have HA := Aside0.mk (And.intro h18 ha)
 have c0 := (Box.cell k2 0 _ rfl).1
 have HW0 : w0.heap.size ≤ w.heap.size := hB.size
 clear hs k1 k2 k3 hB1 hR hB h18 ha hg0 hg1 hg2
 have fin : ∀ (bs' : List Int) (W : World), PutTo w0 w (.slice (some ⟨g0, 0, none⟩) 6 d0) (.slice (some ⟨g1, 0, none⟩) 6 d1) (.slice (some ⟨g2, 0, none⟩) 6 d2) bs' W → ∀ W', Box W' (w.heap.size + 1 + 1) 30 #[.slice (some ⟨g0, 0, none⟩) 6 d0, .slice (some ⟨g1, 0, none⟩) 6 d1, .slice (some ⟨g2, 0, none⟩) 6 d2] → Put1 (w.heap.size + 1 + 1) W W' →
   ∃ u0 u1 u2, Ending.returned (Value.agg #[.slice (some ⟨g0, 0, none⟩) 6 d0, .slice (some ⟨g1, 0, none⟩) 6 d1, .slice (some ⟨g2, 0, none⟩) 6 d2]) = .returned (.agg #[u0, u1, u2]) ∧ MemRows W' w0.heap.size u0 u1 u2 bs' ∧ Below w0.heap.size w0 W' ∧ KeepI w W' := by
  intro bs' W h W' _ hp
  have hs0 : w0.heap.size ≤ w.heap.size + 1 + 1 := by omega
  exact ⟨_, _, _, rfl, h.m.put1 h.b6 (by decide) hp, hp.below h.b hs0, h.k.put1 hp (by omega)⟩
 have HFI := Aside0.mk fin
 clear fin
 go_enter Tryz.func70, Tryz.ntmps70
 go_upto_region 1 with fail
 rw [← hw1]
 clear hw1
 rcases hk with rfl | rfl | rfl
 ·exact absurd rfl hk1
 ·go_upto_region 3 with fail
  refine weaveLast_ 7 rfl (fun W => Below w1.heap.size w1 W) (Lasts.below w1) (Below.refl _ _) [(11, 0), (12, 1), (13, 2), (14, 3), (15, 4), (16, 5), (17, 6)]
   [fun v _ => v = .pointer (some ⟨w.heap.size, 1, none⟩), fun v _ => v = .slice (some ⟨g1, 0, none⟩) 6 d1, fun v _ => v = .pointer (some ⟨w.heap.size + 1, 1, none⟩), fun v _ => v = .int .i64 a, fun v _ => v = .int .i64 n, fun v _ => v = .int .i64 (cutL n), fun v _ => v = .pointer (some ⟨g1, a.toNat, none⟩)]
   mixed (by kernel_rfl) ⟨fun _ => Lasts.const _, fun _ => Lasts.const _, fun _ => Lasts.const _, fun _ => Lasts.const _, fun _ => Lasts.const _, fun _ => Lasts.const _, fun _ => Lasts.const _, trivial⟩
   (by kernel_rfl) (by kernel_rfl) ?_ (fun _ W => PutTo w0 w (.slice (some ⟨g0, 0, none⟩) 6 d0) (.slice (some ⟨g1, 0, none⟩) 6 d1) (.slice (some ⟨g2, 0, none⟩) 6 d2) (bs.set ((2 - 1) * 6 + a).toNat (cutL n)) W) ?_ ?_
  ·refine ⟨?_, ?_, ?_, ?_, ?_, ?_, ?_, ?_, trivial⟩
   ·intro _ vs W hp hv b hs
    have t3 := (hs.oldtm 3 rfl).trans (show _ = some (Value.pointer (some ⟨w.heap.size, 0, none⟩)) from rfl)
    exact stepVal rfl (by go_simp) ⟨Below.refl _ _, rfl⟩
   ·intro _ vs W hp hv b hs
    have h0 : vs 0 = .pointer (some ⟨w.heap.size, 1, none⟩) := hv 0 (by decide)
    have t0 := (hs.tm 11 0 rfl).trans (congrArg some h0)
    have cm := (Box.cell (blk_below H1.out.1 hp) 1 _ rfl).1
    exact stepVal rfl (by go_simp) ⟨Below.refl _ _, rfl⟩
   ·intro _ vs W hp hv b hs
    have t4 := (hs.oldtm 4 rfl).trans (show _ = some (Value.pointer (some ⟨w.heap.size + 1, 0, none⟩)) from rfl)
    exact stepVal rfl (by go_simp) ⟨Below.refl _ _, rfl⟩
   ·intro _ vs W hp hv b hs
    have h2 : vs 2 = .pointer (some ⟨w.heap.size + 1, 1, none⟩) := hv 2 (by decide)
    have t2 := (hs.tm 13 2 rfl).trans (congrArg some h2)
    have cm := (Box.cell (blk_below H1.out.2.1 hp) 1 _ rfl).1
    exact stepVal rfl (by go_simp) ⟨Below.refl _ _, rfl⟩
   ·intro _ vs W hp hv b hs
    have t2 := (hs.oldtm 2 rfl).trans (show _ = some (Value.int .i64 n) from rfl)
    exact stepVal rfl (by go_simp) ⟨Below.refl _ _, rfl⟩
   ·intro _ vs W hp hv b hs
    have h4 : vs 4 = .int .i64 n := hv 4 (by decide)
    refine stepCall rfl Tryz.func76 (by kernel_rfl) rfl #[vs 4] rfl (by simp [Act.eval, hs.tm 15 4 rfl]) (by rw [h4]; exact numCutS_any n W) ?_
    rintro e W' ⟨rfl, hb'⟩
    exact ⟨_, rfl, hb', rfl⟩
   ·intro _ vs W hp hv b hs
    have h1 : vs 1 = .slice (some ⟨g1, 0, none⟩) 6 d1 := hv 1 (by decide)
    have h3 : vs 3 = .int .i64 a := hv 3 (by decide)
    have t1 := (hs.tm 12 1 rfl).trans (congrArg some h1)
    have t3 := (hs.tm 14 3 rfl).trans (congrArg some h3)
    have p0 : (0 ≤ a) = True := eq_true (by have := HA.out.2; omega)
    have p1 : (a < 6) = True := eq_true (by have := HA.out.2; omega)
    have p2 : a.toNat < 6 := by have := HA.out.2; omega
    exact stepVal (v := .pointer (some ⟨g1, a.toNat, none⟩)) rfl (by go_simp) ⟨Below.refl _ _, rfl⟩
   ·intro h
    exact absurd h (by decide)
  ·intro o ho vs W hp hv b hs
   obtain rfl := Option.some.inj ho
   have h5 : vs 5 = .int .i64 (cutL n) := hv 5 (by decide)
   have h6 : vs 6 = .pointer (some ⟨g1, a.toNat, none⟩) := hv 6 (by decide)
   have t5 := (hs.tm 16 5 rfl).trans (congrArg some h5)
   have t6 := (hs.tm 17 6 rfl).trans (congrArg some h6)
   have hm := H1.out.2.2.2.1.below hp
   have hat := own_at hm.r1 a (by have := HA.out.2; omega) (by have := HA.out.2; omega)
   have q0 := hat.1
   have q1 := hat.2
   refine stepSkipB (W' := W.setCell ⟨g1, a.toNat, none⟩ (.int .i64 (cutL n))) rfl (by go_simp) ?_
   obtain ⟨cells, hc⟩ := own_typed hm.r1 g1 rfl
   obtain ⟨e0, e1, e2⟩ := cut_set1 bs HA.out.1 a (cutL n) HA.out.2
   have b3 := blk_below H1.out.1 hp
   have b6 := blk_below H1.out.2.2.1 hp
   have hst := (own_store hm.r1 a (cutL n)).1
   refine ⟨box_setCell b3 (box_ne b3 hc (by decide)), box_setCell b6 (box_ne b6 hc (by decide)), ?_, ?_, keep_setCell (H1.out.2.2.2.2.2.1.trans (KeepI.of_below hp)) hc⟩
   ·exact ⟨by rw [e0]; exact own_setCell hm.r0 (fun e => hm.a01 g1 e.symm rfl) _, by rw [e1]; exact hst, by rw [e2]; exact own_setCell hm.r2 (fun e => hm.a12 g1 rfl e.symm) _, hm.a01, hm.a02, hm.a12⟩
   ·exact (H1.out.2.2.2.2.1.trans (hp.mono H1.out.2.2.2.2.1.size)).setCell (p := ⟨g1, a.toNat, none⟩) H1.out.2.2.2.2.2.2.1 _
  ·intro vs W hP
   have HP := Aside0.mk hP
   have lb := hP.b3
   have lb6 := hP.b6
   simp only [List.map_cons, List.map_nil, putL, Act.put, List.setIfInBounds_toArray, List.set_cons_zero, List.set_cons_succ]
   clear hP c0
   go_wp2_with (first | ((with_reducible refine gate_dst (N := 27) rfl ?_); refine boxGet_ rfl rfl rfl rfl lb Tryz.underlying30 rfl (by kernel_rfl) ?_) | (refine boxPut_ rfl rfl rfl rfl #[.slice (some ⟨g0, 0, none⟩) 6 d0, .slice (some ⟨g1, 0, none⟩) 6 d1, .slice (some ⟨g2, 0, none⟩) 6 d2] rfl lb6 rfl (by kernel_rfl) (by simp [Value.oneCell']) ?_; intro w7 hbx hput))
   refine bodyPost_ret (results_cell_row rfl _ _ (w.heap.size + 1 + 1) 30 #[.slice (some ⟨g0, 0, none⟩) 6 d0, .slice (some ⟨g1, 0, none⟩) 6 d1, .slice (some ⟨g2, 0, none⟩) 6 d2] (0, 0) _ rfl hbx Tryz.underlying30 rfl (by kernel_rfl)) rfl ?_
   exact HFI.out _ W HP.out w7 hbx hput
 ·go_upto_region 5 with fail
  refine weaveLast_ 7 rfl (fun W => Below w1.heap.size w1 W) (Lasts.below w1) (Below.refl _ _) [(20, 0), (21, 1), (22, 2), (23, 3), (24, 4), (25, 5), (26, 6)]
   [fun v _ => v = .pointer (some ⟨w.heap.size, 2, none⟩), fun v _ => v = .slice (some ⟨g2, 0, none⟩) 6 d2, fun v _ => v = .pointer (some ⟨w.heap.size + 1, 1, none⟩), fun v _ => v = .int .i64 a, fun v _ => v = .int .i64 n, fun v _ => v = .int .i64 (cutL n), fun v _ => v = .pointer (some ⟨g2, a.toNat, none⟩)]
   mixed (by kernel_rfl) ⟨fun _ => Lasts.const _, fun _ => Lasts.const _, fun _ => Lasts.const _, fun _ => Lasts.const _, fun _ => Lasts.const _, fun _ => Lasts.const _, fun _ => Lasts.const _, trivial⟩
   (by kernel_rfl) (by kernel_rfl) ?_ (fun _ W => PutTo w0 w (.slice (some ⟨g0, 0, none⟩) 6 d0) (.slice (some ⟨g1, 0, none⟩) 6 d1) (.slice (some ⟨g2, 0, none⟩) 6 d2) (bs.set ((3 - 1) * 6 + a).toNat (cutL n)) W) ?_ ?_
  ·refine ⟨?_, ?_, ?_, ?_, ?_, ?_, ?_, ?_, trivial⟩
   ·intro _ vs W hp hv b hs
    have t3 := (hs.oldtm 3 rfl).trans (show _ = some (Value.pointer (some ⟨w.heap.size, 0, none⟩)) from rfl)
    exact stepVal rfl (by go_simp) ⟨Below.refl _ _, rfl⟩
   ·intro _ vs W hp hv b hs
    have h0 : vs 0 = .pointer (some ⟨w.heap.size, 2, none⟩) := hv 0 (by decide)
    have t0 := (hs.tm 20 0 rfl).trans (congrArg some h0)
    have cm := (Box.cell (blk_below H1.out.1 hp) 2 _ rfl).1
    exact stepVal rfl (by go_simp) ⟨Below.refl _ _, rfl⟩
   ·intro _ vs W hp hv b hs
    have t4 := (hs.oldtm 4 rfl).trans (show _ = some (Value.pointer (some ⟨w.heap.size + 1, 0, none⟩)) from rfl)
    exact stepVal rfl (by go_simp) ⟨Below.refl _ _, rfl⟩
   ·intro _ vs W hp hv b hs
    have h2 : vs 2 = .pointer (some ⟨w.heap.size + 1, 1, none⟩) := hv 2 (by decide)
    have t2 := (hs.tm 22 2 rfl).trans (congrArg some h2)
    have cm := (Box.cell (blk_below H1.out.2.1 hp) 1 _ rfl).1
    exact stepVal rfl (by go_simp) ⟨Below.refl _ _, rfl⟩
   ·intro _ vs W hp hv b hs
    have t2 := (hs.oldtm 2 rfl).trans (show _ = some (Value.int .i64 n) from rfl)
    exact stepVal rfl (by go_simp) ⟨Below.refl _ _, rfl⟩
   ·intro _ vs W hp hv b hs
    have h4 : vs 4 = .int .i64 n := hv 4 (by decide)
    refine stepCall rfl Tryz.func76 (by kernel_rfl) rfl #[vs 4] rfl (by simp [Act.eval, hs.tm 24 4 rfl]) (by rw [h4]; exact numCutS_any n W) ?_
    rintro e W' ⟨rfl, hb'⟩
    exact ⟨_, rfl, hb', rfl⟩
   ·intro _ vs W hp hv b hs
    have h1 : vs 1 = .slice (some ⟨g2, 0, none⟩) 6 d2 := hv 1 (by decide)
    have h3 : vs 3 = .int .i64 a := hv 3 (by decide)
    have t1 := (hs.tm 21 1 rfl).trans (congrArg some h1)
    have t3 := (hs.tm 23 3 rfl).trans (congrArg some h3)
    have p0 : (0 ≤ a) = True := eq_true (by have := HA.out.2; omega)
    have p1 : (a < 6) = True := eq_true (by have := HA.out.2; omega)
    have p2 : a.toNat < 6 := by have := HA.out.2; omega
    exact stepVal (v := .pointer (some ⟨g2, a.toNat, none⟩)) rfl (by go_simp) ⟨Below.refl _ _, rfl⟩
   ·intro h
    exact absurd h (by decide)
  ·intro o ho vs W hp hv b hs
   obtain rfl := Option.some.inj ho
   have h5 : vs 5 = .int .i64 (cutL n) := hv 5 (by decide)
   have h6 : vs 6 = .pointer (some ⟨g2, a.toNat, none⟩) := hv 6 (by decide)
   have t5 := (hs.tm 25 5 rfl).trans (congrArg some h5)
   have t6 := (hs.tm 26 6 rfl).trans (congrArg some h6)
   have hm := H1.out.2.2.2.1.below hp
   have hat := own_at hm.r2 a (by have := HA.out.2; omega) (by have := HA.out.2; omega)
   have q0 := hat.1
   have q1 := hat.2
   refine stepSkipB (W' := W.setCell ⟨g2, a.toNat, none⟩ (.int .i64 (cutL n))) rfl (by go_simp) ?_
   obtain ⟨cells, hc⟩ := own_typed hm.r2 g2 rfl
   obtain ⟨e0, e1, e2⟩ := cut_set2 bs HA.out.1 a (cutL n) HA.out.2
   have b3 := blk_below H1.out.1 hp
   have b6 := blk_below H1.out.2.2.1 hp
   have hst := (own_store hm.r2 a (cutL n)).1
   refine ⟨box_setCell b3 (box_ne b3 hc (by decide)), box_setCell b6 (box_ne b6 hc (by decide)), ?_, ?_, keep_setCell (H1.out.2.2.2.2.2.1.trans (KeepI.of_below hp)) hc⟩
   ·exact ⟨by rw [e0]; exact own_setCell hm.r0 (fun e => hm.a02 g2 e.symm rfl) _, by rw [e1]; exact own_setCell hm.r1 (fun e => hm.a12 g2 e.symm rfl) _, by rw [e2]; exact hst, hm.a01, hm.a02, hm.a12⟩
   ·exact (H1.out.2.2.2.2.1.trans (hp.mono H1.out.2.2.2.2.1.size)).setCell (p := ⟨g2, a.toNat, none⟩) H1.out.2.2.2.2.2.2.2 _
  ·intro vs W hP
   have HP := Aside0.mk hP
   have lb := hP.b3
   have lb6 := hP.b6
   simp only [List.map_cons, List.map_nil, putL, Act.put, List.setIfInBounds_toArray, List.set_cons_zero, List.set_cons_succ]
   clear hP c0
   go_wp2_with (first | ((with_reducible refine gate_dst (N := 27) rfl ?_); refine boxGet_ rfl rfl rfl rfl lb Tryz.underlying30 rfl (by kernel_rfl) ?_) | (refine boxPut_ rfl rfl rfl rfl #[.slice (some ⟨g0, 0, none⟩) 6 d0, .slice (some ⟨g1, 0, none⟩) 6 d1, .slice (some ⟨g2, 0, none⟩) 6 d2] rfl lb6 rfl (by kernel_rfl) (by simp [Value.oneCell']) ?_; intro w7 hbx hput))
   refine bodyPost_ret (results_cell_row rfl _ _ (w.heap.size + 1 + 1) 30 #[.slice (some ⟨g0, 0, none⟩) 6 d0, .slice (some ⟨g1, 0, none⟩) 6 d1, .slice (some ⟨g2, 0, none⟩) 6 d2] (0, 0) _ rfl hbx Tryz.underlying30 rfl (by kernel_rfl)) rfl ?_
   exact HFI.out _ W HP.out w7 hbx hput
theorem of_at (bs : List Int) (h18 : bs.length = 18) (x : Ex) (he : formS 6 x = true) (A : Option Addr) (c : Nat) (v0 v1 v2 : Value) (base : Nat) (w : World) (hR : MemRows w base v0 v1 v2 bs) (hC : Kd.C exK w A x.f3.length x.f3) (hc : x.f3.length ≤ c) :
  Calls Tryz.prog 71 #[eAgg x A c, .agg #[v0, v1, v2]] w fun e w' => e = .returned (.int .i64 (evalI bs x)) ∧ Below w.heap.size w w' := by
 obtain ⟨l0, l1, l2⟩ := cut3_len bs h18
 obtain ⟨K, hK⟩ := of_spec (cut3 bs).1 (cut3 bs).2.1 (cut3 bs).2.2 l0 l1 l2 6 x he
 rw [cut3_all bs h18] at hK
 obtain ⟨q, hq, hM⟩ := MV.ofRows h18 hR
 rw [hq]
 exact spec_l3Of.calls K x.f0 x.f1 x.f2.f0 x.f2.f1 A c x.f3 _ _ (cut3 bs).1 _ _ (cut3 bs).2.1 _ _ (cut3 bs).2.2 _ w hC hc hM.c0 hM.l0 hM.c1 hM.l1 hM.c2 hM.l2 hK
theorem onS_any (n : Int) (w : World) : Calls Tryz.prog 73 #[.int .i64 n] w fun e w' => e = .returned (.bool (n != 0)) ∧ Below w.heap.size w w' :=
 (spec_NumOn.calls n (n != 0) w rfl).mono fun e w' h => ⟨h.1, h.2.below⟩
/-- append of six numbers onto a slice without room: a row of its own. -/
theorem append_base (A : Option Addr) (B : Addr) (c : Nat) (T : TypeId) (W : World) : (Builtin.append_ #[28, 28] T #[.slice A 0 0, .slice (some B) 6 c]).run Tryz.prog W = (Builtin.append_ #[28, 28] T #[.slice none 0 0, .slice (some B) 6 c]).run Tryz.prog W := by
 obtain ⟨i0, hi, hzz⟩ := Option.map_eq_some_iff.1 info3
 simp only [Prod.mk.injEq] at hzz
 obtain ⟨_, hz1, hz2⟩ := hzz
 have hn : ¬ (281474976710656 < Builtin.nextslicecap 6 0 * 8) := by decide
 have hl : ∀ (a : Addr) (w : World), (loadCells a 0).run Tryz.prog w = .ok #[] w := fun a w => by simp [loadCells, loadCellsFrom]
 cases A with
 | none => rfl
 | some a => simp [Builtin.append_, run_underlying Tryz.underlying28, sizeOf, typeInfo, hi, hz1, hz2, Builtin.lenOf, Builtin.firstCells, hn, hl, Result.andThen]
section
variable {ops : Array Oper} {o : Oper} {b : Act} {W : World} {Ψ : Value → World → Prop}
theorem stepLit0 {P : Program} (hw : Region.wanted o (yielded ops b.tmps) = true) {N : Tmp} (hrun : (execOp b.eval o).run P W = .ok (.value (.slice (some ⟨W.heap.size, 0, none⟩) 0 0)) (W.alloc (.cells #[] N)))
  (h : ∀ W' A, Below W.heap.size W W' → Ψ (.slice A 0 0) W') : StepOK P ops o b W Ψ := fun K Q hK =>
 event_step hw hrun (hK _ _ (h _ _ ((Below.refl _ _).alloc (Nat.le_refl _) _)))
theorem stepApp6 {s x : Operand} (hw : Region.wanted o (yielded ops b.tmps) = true) (ho : o.op = .call { callee := .builtin .append, args := #[s, x], argTypes := #[28, 28] }) {A B : Option Addr} {c : Nat} {zs : List Int}
  (hs : b.eval s = .slice A 0 0) (hx : b.eval x = .slice B 6 c) (hC : Kd.C (Kd.int .i64) W B 6 zs) :
  StepOK Tryz.prog ops o b W fun v W' => W'.ownsRow W.heap.size 3 1 v 6 (nums .i64 zs) ∧ Below W.heap.size W W' ∧ ∀ k, v.ownBlock = some k → W.heap.size ≤ k := by
 obtain ⟨hz, _, h3⟩ := hC
 obtain ⟨ad, rfl, hl⟩ := h3 (by decide)
 obtain ⟨i0, hi, hzz⟩ := Option.map_eq_some_iff.1 info3
 simp only [Prod.mk.injEq] at hzz
 obtain ⟨hz0, hz1, hz2⟩ := hzz
 have hnl : (nums .i64 zs).length = 6 := by simp [nums]; exact hz
 obtain ⟨v1, w1, hrun, h1, hg, _, hat⟩ := run_append_own_at (P := Tryz.prog) W W.heap.size 28 o.type 3 i0 (.int .i64 0) 1 8 Tryz.underlying28 hi hz0 hz1 hz2 rfl (by decide) (.slice none 0 0) 0 [] (World.ownsRow_nil W _ _ _) ad 6 c (nums .i64 zs) hnl
  (fun j u hj => by
   have hj6 : j < 6 := by have := (List.getElem?_eq_some_iff.1 hj).1; omega
   have hjz : j < zs.length := by omega
   obtain ⟨cl, hlen, hk, hc⟩ := hl j zs[j] (List.getElem?_eq_getElem hjz)
   have hk' : cl = [.int .i64 zs[j]] := hk
   have hu : u = .int .i64 zs[j] := by
    simp only [nums, List.getElem?_map, List.getElem?_eq_getElem hjz, Option.map_some, Option.some.injEq] at hj
    exact hj.symm
   have := hc 0 u (by rw [hk', hu]; rfl)
   simpa [show (Kd.int .i64).sz = 1 from rfl] using this) (fun u hu => by obtain ⟨n, _, rfl⟩ := List.mem_map.1 hu; rfl) (by decide) (by decide) (Nat.le_refl _)
 have hat' : v1.ownBlock = some W.heap.size := by
  rcases hat with hat | hat
  ·exfalso
   rcases h1.2 with ⟨rfl, h6⟩ | ⟨k, cap, cur, rfl, _⟩
   ·cases h6
   ·cases hat
  ·exact hat
 intro K Q hK
 rw [if_pos hw]
 unfold Oper.wp execOp
 simp only [ho, resolve, invoke, builtin, Sem.run_bind, Sem.run_pure, Result.andThen_ok, List.map_toArray, List.map_cons, List.map_nil, hs, hx, append_base, hrun]
 exact hK v1 w1 ⟨h1, (Below.refl _ _).grown hg (Nat.le_refl _) (fun k hk => by cases hk), fun k hk => by rw [hat'] at hk; injection hk with hk; omega⟩
end
set_option maxRecDepth 100000 in
set_option maxHeartbeats 4000000 in
theorem copy_at (m : Mem3) (p : Caps3) (h0 : m.1.length = 6) (h1 : m.2.1.length = 6) (h2 : m.2.2.length = 6) (w : World) (hM : MV w m p) :
  Calls Tryz.prog 40 #[.agg (mA m p)] w fun e w' => ∃ u0 u1 u2, e = .returned (.agg #[u0, u1, u2]) ∧ MemRows w' w.heap.size u0 u1 u2 (m.1 ++ m.2.1 ++ m.2.2) ∧ Below w.heap.size w w' := by
 have mixed : Tryz.prog.follows .mixedOrders = true := rfl
 obtain ⟨w1, hw1⟩ : ∃ W, W = (w.alloc (.cells (mA m p) 30 (0, 0))).alloc (.cells #[.slice none 0 0, .slice none 0 0, .slice none 0 0] 30 (0, 0)) := ⟨_, rfl⟩
 obtain ⟨hs, k1, k2, hB⟩ := two_blocks' w (.cells (mA m p) 30 (0, 0)) (.cells #[.slice none 0 0, .slice none 0 0, .slice none 0 0] 30 (0, 0))
 rw [← hw1] at hs k1 k2 hB
 have H1 := Aside0.mk (show Box w1 w.heap.size 30 (mA m p) ∧ Box w1 (w.heap.size + 1) 30 mZ ∧ Below w.heap.size w w1 from ⟨k1, k2, hB⟩)
 have HM := Aside0.mk hM
 have HL := Aside0.mk (And.intro h0 (And.intro h1 h2))
 have HB1 : Below w.heap.size w w1 := H1.out.2.2
 clear hs k1 k2 hB hM h0 h1 h2
 unfold mA at hw1
 unfold mA
 go_enter Tryz.func40, Tryz.ntmps40
 go_upto_region 1 with fail
 rw [← hw1]
 clear hw1
 refine weaveFresh_ [3, 7, 11] 12 rfl rfl (fun W => Below w1.heap.size w1 W) (Lasts.below w1) (Below.refl _ _) [(3, 0), (4, 1), (5, 2), (6, 3), (7, 4), (8, 5), (9, 6), (10, 7), (11, 8), (12, 9), (13, 10), (14, 11), (15, 12)]
  [fun v _ => ∃ A, v = .slice A 0 0, fun v _ => v = .pointer (some ⟨w.heap.size, 0, none⟩), fun v _ => v = .slice p.1.1 6 p.1.2, fun v W => W.ownsRow w1.heap.size 3 1 v 6 (nums .i64 m.1), fun v _ => ∃ A, v = .slice A 0 0, fun v _ => v = .pointer (some ⟨w.heap.size, 1, none⟩), fun v _ => v = .slice p.2.1.1 6 p.2.1.2, fun v W => W.ownsRow w1.heap.size 3 1 v 6 (nums .i64 m.2.1), fun v _ => ∃ A, v = .slice A 0 0, fun v _ => v = .pointer (some ⟨w.heap.size, 2, none⟩), fun v _ => v = .slice p.2.2.1 6 p.2.2.2, fun v W => W.ownsRow w1.heap.size 3 1 v 6 (nums .i64 m.2.2)]
  mixed (by kernel_rfl) ⟨fun _ _ _ _ h => h, fun _ => Lasts.const _, fun _ => Lasts.const _, fun _ _ _ hb h => pw_own_below h hb, fun _ _ _ _ h => h, fun _ => Lasts.const _, fun _ => Lasts.const _, fun _ _ _ hb h => pw_own_below h hb, fun _ _ _ _ h => h, fun _ => Lasts.const _, fun _ => Lasts.const _, fun _ _ _ hb h => pw_own_below h hb, trivial⟩
  (by kernel_rfl) (by kernel_rfl) (by kernel_rfl) ?_ ?_
  (fun v W => ∃ v0 v1 v2, v = .agg #[v0, v1, v2] ∧ MemRows W w1.heap.size v0 v1 v2 (m.1 ++ m.2.1 ++ m.2.2) ∧ Below w1.heap.size w1 W)
  (fun _ W => ∃ v0 v1 v2, Box W (w.heap.size + 1) 30 #[v0, v1, v2] ∧ MemRows W w1.heap.size v0 v1 v2 (m.1 ++ m.2.1 ++ m.2.2) ∧ Below w.heap.size w W) ?_ ?_ ?_
 ·refine ⟨?_, ?_, ?_, ?_, ?_, ?_, ?_, ?_, ?_, ?_, ?_, ?_, ?_, ?_, trivial⟩
  ·intro _ vs W hp hv b hs
   refine stepLit0 rfl (by go_simp; try rfl) fun W' A hb' => ⟨hb', ⟨A, rfl⟩, fun h => absurd h (by decide)⟩
  ·intro _ vs W hp hv b hs
   have t1 := (hs.oldtm 1 rfl).trans (show _ = some (Value.pointer (some ⟨w.heap.size, 0, none⟩)) from rfl)
   exact stepVal rfl (by go_simp) ⟨Below.refl _ _, rfl, fun h => absurd h (by decide)⟩
  ·intro _ vs W hp hv b hs
   have h1 : vs 1 = .pointer (some ⟨w.heap.size, 0, none⟩) := hv 1 (by decide)
   have t4 := (hs.tm 4 1 rfl).trans (congrArg some h1)
   have cl : W.cell? ⟨w.heap.size, 0, none⟩ = some (.slice p.1.1 6 p.1.2) := by rw [blk_cell (blk_below H1.out.1 hp), ← HL.out.1]; rfl
   exact stepVal rfl (by go_simp) ⟨Below.refl _ _, rfl, fun h => absurd h (by decide)⟩
  ·intro _ vs W hp hv b hs
   obtain ⟨A, h0⟩ : ∃ A, vs 0 = .slice A 0 0 := hv 0 (by decide)
   have h2 : vs 2 = .slice p.1.1 6 p.1.2 := hv 2 (by decide)
   have hC := Kd.C_below (Kd.C_below HM.out.c0 HB1) hp
   rw [HL.out.1] at hC
   exact (stepApp6 rfl rfl ((hs.ev 3 0 rfl).trans h0) ((hs.ev 5 2 rfl).trans h2) hC).mono fun v W' h => ⟨h.2.1, own_weaken h.1 hp.size, fun _ => h.2.2⟩
  ·intro _ vs W hp hv b hs
   refine stepLit0 rfl (by go_simp; try rfl) fun W' A hb' => ⟨hb', ⟨A, rfl⟩, fun h => absurd h (by decide)⟩
  ·intro _ vs W hp hv b hs
   have t1 := (hs.oldtm 1 rfl).trans (show _ = some (Value.pointer (some ⟨w.heap.size, 0, none⟩)) from rfl)
   exact stepVal rfl (by go_simp) ⟨Below.refl _ _, rfl, fun h => absurd h (by decide)⟩
  ·intro _ vs W hp hv b hs
   have h5 : vs 5 = .pointer (some ⟨w.heap.size, 1, none⟩) := hv 5 (by decide)
   have t8 := (hs.tm 8 5 rfl).trans (congrArg some h5)
   have cl : W.cell? ⟨w.heap.size, 1, none⟩ = some (.slice p.2.1.1 6 p.2.1.2) := by rw [blk_cell (blk_below H1.out.1 hp), ← HL.out.2.1]; rfl
   exact stepVal rfl (by go_simp) ⟨Below.refl _ _, rfl, fun h => absurd h (by decide)⟩
  ·intro _ vs W hp hv b hs
   obtain ⟨A, h4⟩ : ∃ A, vs 4 = .slice A 0 0 := hv 4 (by decide)
   have h6 : vs 6 = .slice p.2.1.1 6 p.2.1.2 := hv 6 (by decide)
   have hC := Kd.C_below (Kd.C_below HM.out.c1 HB1) hp
   rw [HL.out.2.1] at hC
   exact (stepApp6 rfl rfl ((hs.ev 7 4 rfl).trans h4) ((hs.ev 9 6 rfl).trans h6) hC).mono fun v W' h => ⟨h.2.1, own_weaken h.1 hp.size, fun _ => h.2.2⟩
  ·intro _ vs W hp hv b hs
   refine stepLit0 rfl (by go_simp; try rfl) fun W' A hb' => ⟨hb', ⟨A, rfl⟩, fun h => absurd h (by decide)⟩
  ·intro _ vs W hp hv b hs
   have t1 := (hs.oldtm 1 rfl).trans (show _ = some (Value.pointer (some ⟨w.heap.size, 0, none⟩)) from rfl)
   exact stepVal rfl (by go_simp) ⟨Below.refl _ _, rfl, fun h => absurd h (by decide)⟩
  ·intro _ vs W hp hv b hs
   have h9 : vs 9 = .pointer (some ⟨w.heap.size, 2, none⟩) := hv 9 (by decide)
   have t12 := (hs.tm 12 9 rfl).trans (congrArg some h9)
   have cl : W.cell? ⟨w.heap.size, 2, none⟩ = some (.slice p.2.2.1 6 p.2.2.2) := by rw [blk_cell (blk_below H1.out.1 hp), ← HL.out.2.2]; rfl
   exact stepVal rfl (by go_simp) ⟨Below.refl _ _, rfl, fun h => absurd h (by decide)⟩
  ·intro _ vs W hp hv b hs
   obtain ⟨A, h8⟩ : ∃ A, vs 8 = .slice A 0 0 := hv 8 (by decide)
   have h10 : vs 10 = .slice p.2.2.1 6 p.2.2.2 := hv 10 (by decide)
   have hC := Kd.C_below (Kd.C_below HM.out.c2 HB1) hp
   rw [HL.out.2.2] at hC
   exact (stepApp6 rfl rfl ((hs.ev 11 8 rfl).trans h8) ((hs.ev 13 10 rfl).trans h10) hC).mono fun v W' h => ⟨h.2.1, own_weaken h.1 hp.size, fun _ => h.2.2⟩
  ·intro h
   exact absurd h (by decide)
  ·intro h
   exact absurd h (by decide)
 ·intro j hj v W hF k hk
  simp only [List.mem_cons, List.mem_nil_iff, or_false] at hj
  rcases hj with rfl | rfl | rfl
  ·exact own_lt (show W.ownsRow w1.heap.size 3 1 v 6 (nums .i64 m.1) from hF) k hk
  ·exact own_lt (show W.ownsRow w1.heap.size 3 1 v 6 (nums .i64 m.2.1) from hF) k hk
  ·exact own_lt (show W.ownsRow w1.heap.size 3 1 v 6 (nums .i64 m.2.2) from hF) k hk
 ·intro o ho vs W hp hv hap b hs
  obtain rfl := Option.some.inj ho
  have h3 : W.ownsRow w1.heap.size 3 1 (vs 3) 6 (nums .i64 m.1) := hv 3 (by decide)
  have h7 : W.ownsRow w1.heap.size 3 1 (vs 7) 6 (nums .i64 m.2.1) := hv 7 (by decide)
  have h11 : W.ownsRow w1.heap.size 3 1 (vs 11) 6 (nums .i64 m.2.2) := hv 11 (by decide)
  have t6 := hs.tm 6 3 rfl
  have t10 := hs.tm 10 7 rfl
  have t14 := hs.tm 14 11 rfl
  have e0 : (m.1 ++ m.2.1 ++ m.2.2).take 6 = m.1 := by rw [List.append_assoc, List.take_append_of_le_length (by have := HL.out; omega), List.take_of_length_le (by have := HL.out; omega)]
  have e1 : ((m.1 ++ m.2.1 ++ m.2.2).drop 6).take 6 = m.2.1 := by
   rw [List.append_assoc, List.drop_append_of_le_length (by have := HL.out; omega), List.drop_of_length_le (by have := HL.out; omega), List.nil_append, List.take_append_of_le_length (by have := HL.out; omega), List.take_of_length_le (by have := HL.out; omega)]
  have e2 : ((m.1 ++ m.2.1 ++ m.2.2).drop 12).take 6 = m.2.2 := by
   have hl : (m.1 ++ m.2.1).length = 12 := by have := HL.out; simp; omega
   rw [List.drop_append_of_le_length (by omega), List.drop_of_length_le (by omega), List.nil_append, List.take_of_length_le (by have := HL.out; omega)]
  have HR := Aside0.mk (show MemRows W w1.heap.size (vs 3) (vs 7) (vs 11) (m.1 ++ m.2.1 ++ m.2.2) from ⟨by rw [e0]; exact h3, by rw [e1]; exact h7, by rw [e2]; exact h11, hap 3 (by decide) 7 (by decide) (by decide), hap 3 (by decide) 11 (by decide) (by decide), hap 7 (by decide) 11 (by decide) (by decide)⟩)
  obtain ⟨A0, d0, q0⟩ := own_slice h3
  obtain ⟨A1, d1, q1⟩ := own_slice h7
  obtain ⟨A2, d2, q2⟩ := own_slice h11
  clear e0 e1 e2
  generalize vs 3 = u0 at *
  generalize vs 7 = u1 at *
  generalize vs 11 = u2 at *
  subst q0 q1 q2
  exact stepVal (v := .agg #[.slice A0 6 d0, .slice A1 6 d1, .slice A2 6 d2]) rfl (by go_simp) ⟨_, _, _, rfl, HR.out, hp⟩
 ·intro o ho vs W hv b hs
  obtain rfl := Option.some.inj ho
  obtain ⟨v0, v1, v2, he, hR, hb⟩ := hv
  obtain ⟨A0, d0, e0⟩ := own_slice hR.r0
  obtain ⟨A1, d1, e1⟩ := own_slice hR.r1
  obtain ⟨A2, d2, e2⟩ := own_slice hR.r2
  subst e0 e1 e2
  have hbx := blk_below H1.out.2.1 hb
  refine stepPutB rfl rfl ((hs.old 2 rfl).trans rfl) #[.slice A0 6 d0, .slice A1 6 d1, .slice A2 6 d2] ((hs.ev 15 12 rfl).trans he) hbx rfl (by kernel_rfl) (by simp [Value.oneCell']) fun W' hbx' hput => ⟨_, _, _, hbx', hR.put1 hbx (by decide) hput, ?_⟩
  exact hput.below (HB1.trans (hb.mono HB1.size)) (Nat.le_succ _)
 ·rintro vs W ⟨v0, v1, v2, hbx, hR, hb⟩
  have HF := Aside0.mk (show MemRows W w.heap.size v0 v1 v2 (m.1 ++ m.2.1 ++ m.2.2) ∧ Below w.heap.size w W from ⟨hR.weaken HB1.size, hb⟩)
  have HX := Aside0.mk hbx
  simp only [List.map_cons, List.map_nil, putL, Act.put, List.setIfInBounds_toArray, List.set_cons_zero, List.set_cons_succ]
  clear hbx hR hb
  go_wp2
  refine bodyPost_ret (results_cell_row rfl _ _ (w.heap.size + 1) 30 #[v0, v1, v2] (0, 0) _ rfl HX.out Tryz.underlying30 rfl (by kernel_rfl)) rfl ?_
  exact ⟨v0, v1, v2, rfl, HF.out⟩
end Go.Proofs.YtendbgedpjcocaaGreatDoor.B
