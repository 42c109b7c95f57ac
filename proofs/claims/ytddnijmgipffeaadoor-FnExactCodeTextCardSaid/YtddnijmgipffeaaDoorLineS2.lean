/- spec.l5Line, exactly: its walk (begun; not built). -/
import Derived.Test.YtddnijmgipffeaaDoorLineS
namespace Go.Proofs.YtddnijmgipffeaaDoor.B
open Go Go.RowKit Go.Shelf Go.Lib Go.Proofs.YtddnijmgipffeaaDoorW.PrintWords Go.Proofs.YtddnijmgipffeaaDoorW.PrintLast Go.Proofs.YtddnijmgipffeaaDoorW.PrintMore
set_option linter.unusedVariables false
def Words11T (v : Value) (W : World) : Prop := ∃ (g : Nat) (cs : Array Value), v = .slice (some ⟨g, 0, none⟩) 11 11 ∧ W.heap[g]? = some (.cells cs 9 (0, 0)) ∧ ∀ n : Int, 3 ≤ n → n ≤ 9 → cs[n.toNat]? = some (.string ⟨(wordL n).toArray⟩)
theorem Words11T.last (v : Value) : Lasts (Words11T v) := fun W W' hb ⟨g, cs, h1, h2, h3⟩ => ⟨g, cs, h1, blk_below h2 hb, h3⟩
set_option maxRecDepth 100000 in
theorem wordsS_any (w : World) : Calls Tryd.prog 15 #[] w fun en w' => (∃ v, en = .returned v ∧ Words11T v w') ∧ Below w.heap.size w w' := by
  have mixed : Tryd.prog.follows .mixedOrders = true := rfl
  go_enter Tryd.func15, Tryd.ntmps15
  go_wp2_with fail
  go_ret
  refine ⟨⟨_, rfl, w.heap.size, _, rfl, heap_alloc_new w _, fun n h1 h2 => ?_⟩, (Below.refl _ _).alloc (Nat.le_refl _) _⟩
  rcases (show n = 3 ∨ n = 4 ∨ n = 5 ∨ n = 6 ∨ n = 7 ∨ n = 8 ∨ n = 9 by omega) with rfl | rfl | rfl | rfl | rfl | rfl | rfl <;> rfl
set_option maxRecDepth 100000 in
set_option maxHeartbeats 4000000 in
theorem lineS_any (o n k a : Int) (hn0 : -9223372036854775808 ≤ n) (hn1 : n ≤ 9223372036854775807) (w : World) : Calls Tryd.prog 9 #[.agg #[.int .i64 o, .int .i64 n, .int .i64 k, .int .i64 a]] w fun e w' => e = .returned (.string ⟨(lineL o n k a).toArray⟩) ∧ Below w.heap.size w w' := by
  have mixed : Tryd.prog.follows .mixedOrders = true := rfl
  have H1 := Aside0.mk (show Box (w.alloc (.cells #[.int .i64 o, .int .i64 n, .int .i64 k, .int .i64 a] 33 (0, 0))) w.heap.size 33 #[.int .i64 o, .int .i64 n, .int .i64 k, .int .i64 a] ∧ Below w.heap.size w (w.alloc (.cells #[.int .i64 o, .int .i64 n, .int .i64 k, .int .i64 a] 33 (0, 0))) from ⟨heap_alloc_new _ _, (Below.refl _ _).alloc (Nat.le_refl _) _⟩)
  obtain ⟨w1, hw1⟩ : ∃ W, W = w.alloc (.cells #[.int .i64 o, .int .i64 n, .int .i64 k, .int .i64 a] 33 (0, 0)) := ⟨_, rfl⟩
  rw [← hw1] at H1
  go_enter Tryd.func9, Tryd.ntmps9
  go_upto_region 1 with fail
  rw [← hw1]
  clear hw1
  have c0 := (Box.cell H1.out.1 0 (.int .i64 o) rfl).1
  have c1 := (Box.cell H1.out.1 1 (.int .i64 n) rfl).1
  have c2 := (Box.cell H1.out.1 2 (.int .i64 k) rfl).1
  have c3 := (Box.cell H1.out.1 3 (.int .i64 a) rfl).1
  by_cases o1 : o = 1
  · subst o1
    go_wp2_with fail
    refine (decS_any n hn0 hn1 w1).mono ?_
    rintro e w2 ⟨rfl, hb2⟩
    have H2 := Aside0.mk (H1.out.2.trans (hb2.mono H1.out.2.size))
    have za : (⟨(itoa n).toArray⟩ : ByteArray).size ≤ 21 := by rw [ba_size]; exact itoa_len n hn0 hn1
    obtain ⟨u, hu⟩ : ∃ u : ByteArray, u = ⟨(itoa n).toArray⟩ := ⟨_, rfl⟩
    rw [← hu] at za ⊢
    have HU := Aside0.mk hu
    clear hu hb2 c0 c1 c2 c3
    go_wp2_with fail
    go_ret
    refine ⟨?_, H2.out⟩
    show Ending.returned (.string ((⟨[112, 117, 115, 104, 32].toArray⟩ : ByteArray) ++ u)) = _
    rw [HU.out, ba_app]
    rfl
  have b1 : decide (o = 1) = false := decide_eq_false o1
  by_cases o2 : o = 2
  · subst o2
    go_wp2_with fail
    refine (addrS_any k a w1).mono ?_
    rintro e w2 ⟨rfl, hb2⟩
    have H2 := Aside0.mk (H1.out.2.trans (hb2.mono H1.out.2.size))
    have za : (⟨(addrT k a).toArray⟩ : ByteArray).size ≤ 22 := by rw [ba_size]; exact addrT_len k a
    obtain ⟨u, hu⟩ : ∃ u : ByteArray, u = ⟨(addrT k a).toArray⟩ := ⟨_, rfl⟩
    rw [← hu] at za ⊢
    have HU := Aside0.mk hu
    clear hu hb2 c0 c1 c2 c3
    go_wp2_with fail
    go_ret
    refine ⟨?_, H2.out⟩
    show Ending.returned (.string ((⟨[108, 111, 97, 100, 32].toArray⟩ : ByteArray) ++ u)) = _
    rw [HU.out, ba_app]
    rfl
  have b2 : decide (o = 2) = false := decide_eq_false o2
  by_cases o3 : o = 3
  · subst o3
    go_wp2_with fail
    refine (addrS_any k a w1).mono ?_
    rintro e w2 ⟨rfl, hb2⟩
    have H2 := Aside0.mk (H1.out.2.trans (hb2.mono H1.out.2.size))
    have za : (⟨(addrT k a).toArray⟩ : ByteArray).size ≤ 22 := by rw [ba_size]; exact addrT_len k a
    obtain ⟨u, hu⟩ : ∃ u : ByteArray, u = ⟨(addrT k a).toArray⟩ := ⟨_, rfl⟩
    rw [← hu] at za ⊢
    have HU := Aside0.mk hu
    clear hu hb2 c0 c1 c2 c3
    go_wp2_with fail
    go_ret
    refine ⟨?_, H2.out⟩
    show Ending.returned (.string ((⟨[115, 116, 111, 114, 101, 32].toArray⟩ : ByteArray) ++ u)) = _
    rw [HU.out, ba_app]
    rfl
  have b3 : decide (o = 3) = false := decide_eq_false o3
  by_cases o4 : o = 4
  · subst o4
    have H2 := H1
    cases hv : isTwoV n with
    | false =>
      have hn : ¬ (3 ≤ n ∧ n ≤ 9) := of_decide_eq_false hv
      clear hv
      have hl : lineL 4 n k a = [110, 111, 110, 101] := by
        show (if 3 ≤ n ∧ n ≤ 9 then wordL n else [110, 111, 110, 101]) = _
        rw [if_neg hn]
      by_cases n3 : 3 ≤ n
      · have n9 : ¬ n ≤ 9 := fun h => hn ⟨n3, h⟩
        clear hn
        go_wp2_with fail
        all_goals (go_ret; exact ⟨by first | (rw [hl]; rfl) | (show Ending.returned (.string ⟨[110, 111, 110, 101].toArray⟩) = _; rw [← hl]), H2.out.2⟩)
      · clear hn
        go_wp2_with fail
        all_goals (go_ret; exact ⟨by first | (rw [hl]; rfl) | (show Ending.returned (.string ⟨[110, 111, 110, 101].toArray⟩) = _; rw [← hl]), H2.out.2⟩)
    | true =>
      have hn : 3 ≤ n ∧ n ≤ 9 := of_decide_eq_true hv
      clear hv
      go_wp2_with fail
      clear c0 c1 c2 c3
      generalize w1 = W1 at H2 H1 ⊢
      refine weaveB_ (fun W => Below W1.heap.size W1 W) (Lasts.below W1) (Below.refl _ _) [(33, 0), (34, 1), (35, 2), (36, 3), (37, 4), (2, 5)] [Words11T, fun v _ => v = .pointer (some ⟨w.heap.size, 1, none⟩), fun v _ => v = .int .i64 n, fun v W => ∃ p, v = .pointer (some p) ∧ W.cell? p = some (.string ⟨(wordL n).toArray⟩), fun v _ => v = .string ⟨(wordL n).toArray⟩, fun v _ => v = .string ⟨(wordL n).toArray⟩] mixed (by kernel_rfl) ⟨Words11T.last, fun _ => Lasts.const _, fun _ => Lasts.const _, fun v W W' hb ⟨p, h1, h2⟩ => ⟨p, h1, (hb.cell (World.block_lt_of_cell? W _ h2)).trans h2⟩, fun _ => Lasts.const _, fun _ => Lasts.const _, trivial⟩ ?_ ?_
      · refine ⟨?_, ?_, ?_, ?_, ?_, ?_, trivial⟩
        · intro vs W hp hv b hs
          refine stepCall rfl Tryd.func15 (by kernel_rfl) rfl #[] rfl (by simp) (wordsS_any W) ?_
          rintro en W' ⟨⟨v, rfl, h1⟩, hb'⟩
          exact ⟨_, rfl, hb', h1⟩
        · intro vs W hp hv b hs
          have t1 := (hs.oldtm 1 rfl).trans (show _ = some (Value.pointer (some ⟨w.heap.size, 0, none⟩)) from rfl)
          exact stepVal rfl (by go_simp) ⟨Below.refl _ _, rfl⟩
        · intro vs W hp hv b hs
          have h1 : vs 1 = .pointer (some ⟨w.heap.size, 1, none⟩) := hv 1 (by decide)
          have t34 := (hs.tm 34 1 rfl).trans (congrArg some h1)
          have c1 := (Box.cell (blk_below H2.out.1 hp) 1 _ rfl).1
          exact stepVal rfl (by go_simp) ⟨Below.refl _ _, rfl⟩
        · intro vs W hp hv b hs
          obtain ⟨g, cs, h0, hbx, hst⟩ := (hv 0 (by decide) : Words11T (vs 0) W)
          have h2 : vs 2 = .int .i64 n := hv 2 (by decide)
          have t33 := (hs.tm 33 0 rfl).trans (congrArg some h0)
          have t35 := (hs.tm 35 2 rfl).trans (congrArg some h2)
          have hc := (blk_cell hbx n.toNat).trans (hst n hn.1 hn.2)
          exact stepVal (v := .pointer (some ⟨g, n.toNat, none⟩)) rfl (by go_simp; intro hh; exact absurd (hh (by omega)) (by omega)) ⟨Below.refl _ _, _, rfl, hc⟩
        · intro vs W hp hv b hs
          obtain ⟨p, h3', hc⟩ : ∃ p, vs 3 = .pointer (some p) ∧ W.cell? p = some (.string ⟨(wordL n).toArray⟩) := hv 3 (by decide)
          have t36 := (hs.tm 36 3 rfl).trans (congrArg some h3')
          exact stepVal rfl (by go_simp) ⟨Below.refl _ _, rfl⟩
        · intro vs W hp hv b hs
          have h4 : vs 4 = .string ⟨(wordL n).toArray⟩ := hv 4 (by decide)
          have t37 := (hs.tm 37 4 rfl).trans (congrArg some h4)
          exact stepVal rfl (by go_simp) ⟨Below.refl _ _, rfl⟩
      · intro vs W hp hv
        have h5 : vs 5 = .string ⟨(wordL n).toArray⟩ := hv 5 (by decide)
        have HE := Aside0.mk (show Below w.heap.size w W from H2.out.2.trans (hp.mono H2.out.2.size))
        simp only [List.map_cons, List.map_nil, putL, Act.put, List.setIfInBounds_toArray, List.set_cons_zero, List.set_cons_succ, h5]
        clear hv hp
        go_wp2_with fail
        go_ret
        refine ⟨?_, HE.out⟩
        have : lineL 4 n k a = wordL n := by
          show (if 3 ≤ n ∧ n ≤ 9 then wordL n else [110, 111, 110, 101]) = _
          rw [if_pos hn]
        rw [this]
        rfl
  have b4 : decide (o = 4) = false := decide_eq_false o4
  by_cases o5 : o = 5
  · subst o5
    go_wp2_with fail
    go_ret
    exact ⟨rfl, H1.out.2⟩
  have b5 : decide (o = 5) = false := decide_eq_false o5
  by_cases o6 : o = 6
  · subst o6
    go_wp2_with fail
    refine (decS_any n hn0 hn1 w1).mono ?_
    rintro e w2 ⟨rfl, hb2⟩
    have H2 := Aside0.mk (H1.out.2.trans (hb2.mono H1.out.2.size))
    have za : (⟨(itoa n).toArray⟩ : ByteArray).size ≤ 21 := by rw [ba_size]; exact itoa_len n hn0 hn1
    obtain ⟨u, hu⟩ : ∃ u : ByteArray, u = ⟨(itoa n).toArray⟩ := ⟨_, rfl⟩
    rw [← hu] at za ⊢
    have HU := Aside0.mk hu
    clear hu hb2 c0 c1 c2 c3
    go_wp2_with fail
    go_ret
    refine ⟨?_, H2.out⟩
    show Ending.returned (.string ((⟨[115, 107, 105, 112, 32].toArray⟩ : ByteArray) ++ u)) = _
    rw [HU.out, ba_app]
    rfl
  have b6 : decide (o = 6) = false := decide_eq_false o6
  by_cases o7 : o = 7
  · subst o7
    go_wp2_with fail
    refine (decS_any n hn0 hn1 w1).mono ?_
    rintro e w2 ⟨rfl, hb2⟩
    have H2 := Aside0.mk (H1.out.2.trans (hb2.mono H1.out.2.size))
    have za : (⟨(itoa n).toArray⟩ : ByteArray).size ≤ 21 := by rw [ba_size]; exact itoa_len n hn0 hn1
    obtain ⟨u, hu⟩ : ∃ u : ByteArray, u = ⟨(itoa n).toArray⟩ := ⟨_, rfl⟩
    rw [← hu] at za ⊢
    have HU := Aside0.mk hu
    clear hu hb2 c0 c1 c2 c3
    go_wp2_with fail
    go_ret
    refine ⟨?_, H2.out⟩
    show Ending.returned (.string ((⟨[106, 117, 109, 112, 32].toArray⟩ : ByteArray) ++ u)) = _
    rw [HU.out, ba_app]
    rfl
  have b7 : decide (o = 7) = false := decide_eq_false o7
  by_cases o8 : o = 8
  · subst o8
    go_wp2_with fail
    refine (decS_any n hn0 hn1 w1).mono ?_
    rintro e w2 ⟨rfl, hb2⟩
    have H2 := Aside0.mk (H1.out.2.trans (hb2.mono H1.out.2.size))
    have za : (⟨(itoa n).toArray⟩ : ByteArray).size ≤ 21 := by rw [ba_size]; exact itoa_len n hn0 hn1
    obtain ⟨u, hu⟩ : ∃ u : ByteArray, u = ⟨(itoa n).toArray⟩ := ⟨_, rfl⟩
    rw [← hu] at za ⊢
    have HU := Aside0.mk hu
    clear hu hb2 c0 c1 c2 c3
    go_wp2_with fail
    go_ret
    refine ⟨?_, H2.out⟩
    show Ending.returned (.string ((⟨[98, 97, 99, 107, 32].toArray⟩ : ByteArray) ++ u)) = _
    rw [HU.out, ba_app]
    rfl
  have b8 : decide (o = 8) = false := decide_eq_false o8
  go_wp2_with fail
  go_ret
  refine ⟨?_, H1.out.2⟩
  have : lineL o n k a = [110, 111, 110, 101] := by
    unfold lineL
    rw [if_neg o1, if_neg o2, if_neg o3, if_neg o4, if_neg o5, if_neg o6, if_neg o7, if_neg o8]
  rw [this]
  rfl
end Go.Proofs.YtddnijmgipffeaaDoor.B
