import Derived.Test.YtiofkhfmdophpaaValAll
import Derived.Test.YtiofkhfmdophpaaWordsAll
import Derived.Test.YtiofkhfmdophpaaLawOk2
import Derived.Test.YtiofkhfmdophpaaAlikeAll
import Derived.Test.YtiofkhfmdophpaaDrawAlike
import Derived.Test.YtiofkhfmdophpaaPkC
/- How many parts, and whether two trees are alike: over trees as values. -/
namespace Go.Proofs.Ytiofkhfmdophpaa.B
open Go Go.RowKit Go.Proofs.YtiofkhfmdophpaaW.PrintWords Go.Proofs.YtiofkhfmdophpaaW.PrintLast Go.Proofs.YtiofkhfmdophpaaW.PrintMore
set_option linter.unusedVariables false
theorem manyV_ok (e : Ex) : manyV e = if okE e = true then (manyS 6 e : Int) else 0 := by
 unfold manyV
 rw [okL_eq]
 show (if okE e = true then _ else _) = _
 split
 ·rename_i h
  have := ((walk_ok 6 (Nat.le_refl _) e [] (by simp) rfl).2 (by rw [show okL 0 (walkP 6 e []).1 = okL 0 (partsL e) from rfl, okL_eq]; exact h)).2
  rw [show (partsL e).length = manyS 6 e by simpa [partsL] using this]
 ·rfl
theorem manyV_yes {e : Ex} (h : okE e = true) : manyV e = (manyS 6 e : Int) := by rw [manyV_ok, if_pos h]
theorem manyV_not {e : Ex} (h : okE e = false) : manyV e = 0 := by rw [manyV_ok, h]; rfl
theorem manyV_pos (e : Ex) : (0 < manyV e) ↔ okE e = true := by
 cases h : okE e with
 | true => rw [manyV_yes h]; have := manyS_pos 6 e; simp; omega
 | false => rw [manyV_not h]; simp
theorem manyV_n1 {a : Ex} (h : okE (n1 a) = true) : manyV (n1 a) = manyV a + 1 := by
 obtain ⟨h1, h2⟩ := (okE_n1 a).1 h
 have ha : okE a = true := okE_sub (d := 5) (by omega) h1 (by omega)
 rw [manyV_yes h, manyV_yes ha, many_n1, many_to (d := 5) (n := 6) (by omega) a h1]
 omega
theorem manyV_n2 {k : Int} (hk : 3 ≤ k ∧ k ≤ 9) {a b : Ex} (h : okE (n2 k a b) = true) : manyV (n2 k a b) = manyV a + manyV b + 1 := by
 obtain ⟨⟨h1, h1'⟩, h2⟩ := (okE_n2 k hk a b).1 h
 have ha : okE a = true := okE_sub (d := 5) (by omega) h1 (by omega)
 have hb : okE b = true := okE_sub (d := 5) (by omega) h1' (by omega)
 rw [manyV_yes h, manyV_yes ha, manyV_yes hb, many_n2, many_to (d := 5) (n := 6) (by omega) a h1, many_to (d := 5) (n := 6) (by omega) b h1']
 omega
theorem manyV_in (e : Ex) : 0 ≤ manyV e ∧ manyV e ≤ 14 := by
 cases h : okE e with
 | true => rw [manyV_yes h]; have := ((okE_iff e).1 h).2; omega
 | false => rw [manyV_not h]; omega
theorem kid_okE {e : Ex} (h : okE e = true) {x : Ex} (hx : x ∈ e.f3) : okE x = true := okE_kid h hx

theorem manyI_any (x : Ex) (A : Option Addr) (c : Nat) (W : World) (HT : TabW W) (h : TV W x A c) : Calls Try.prog 29 #[.agg (eA x A c)] W fun e W' => e = .returned (.int .i64 (manyV x)) ∧ Below W.heap.size W W' :=
 manyImpl_any okCon x A c W h.reads.2 h.reads.1 HT
theorem manyS_any (x : Ex) (hs : Short x) (A : Option Addr) (c : Nat) (W : World) (h : TV W x A c) : Calls Try.prog 28 #[.agg (eA x A c)] W fun e W' => e = .returned (.int .i64 (manyV x)) ∧ Below W.heap.size W W' := by
 have hex : ∃ k, spec_ExprMany.f k x.f0 x.f1 x.f2.f0 x.f2.f1 x.f3 = some (manyV x) := by
  obtain ⟨K, hK⟩ := specOk_ev x hs
  rw [manyV_ok]
  unfold spec_ExprMany.f
  cases hv : okE x with
  | false => exact ⟨K, by rw [hK K (Nat.le_refl _), hv]; rfl⟩
  | true =>
   obtain ⟨k2, h2⟩ := many_spec 6 (by omega) x hs ((okE_iff x).1 hv).1
   have h2' : spec_l3Many.f (K + k2) x.f0 x.f1 x.f2.f0 x.f2.f1 x.f3 6 = some (manyS 6 x : Int) := up_le (mono_m _ _ _ _ _ _) (Nat.le_add_left k2 K) h2
   exact ⟨K + k2, by rw [hK (K + k2) (Nat.le_add_right _ _), hv]; simp [h2']⟩
 obtain ⟨K, hK⟩ := hex
 exact spec_ExprMany.calls K x.f0 x.f1 x.f2.f0 x.f2.f1 A c x.f3 _ W h.reads.2 h.reads.1 hK
theorem tiny_iex {x : Ex} (h : Tiny x) : iexOk x := by
 induction h with
 | mk e hl _ ih => exact (iexOk_eq e).2 ⟨by omega, ih⟩
theorem tiny_moved {x : Ex} (h : Tiny x) : Tiny (movedE x) := by
 cases h with
 | mk _ a b => exact .mk _ a b
theorem alikeI_any (x y : Ex) (A : Option Addr) (c : Nat) (B : Option Addr) (d : Nat) (W : World) (h : TV W x A c) (h' : TV W y B d) :
  Calls Try.prog 48 #[.agg (eA x A c), .agg (eA y B d)] W fun e W' => e = .returned (.bool (alikeL x y)) ∧ Below W.heap.size W W' :=
 alike_any x y A B c d W h.reads.2 h.reads.1 h'.reads.2 h'.reads.1
theorem alikeS_any (x y : Ex) (hx : iexOk x) (A : Option Addr) (c : Nat) (B : Option Addr) (d : Nat) (W : World) (h : TV W x A c) (h' : TV W y B d) :
  Calls Try.prog 49 #[.agg (eA x A c), .agg (eA y B d)] W fun e W' => e = .returned (.bool (alikeL x y)) ∧ Below W.heap.size W W' := by
 obtain ⟨K, hK⟩ := alike_is x hx y
 exact spec_ExprAlike.calls K x.f0 x.f1 x.f2.f0 x.f2.f1 A c x.f3 y.f0 y.f1 y.f2.f0 y.f2.f1 B d y.f3 _ W h.reads.2 h.reads.1 h'.reads.2 h'.reads.1 (hK K (Nat.le_refl _))
theorem alikeL_self (x : Ex) : alikeL x x = true := (alikeL_iff x x).2 rfl
end Go.Proofs.Ytiofkhfmdophpaa.B
/- The law FnExprMany, walked by hand. -/
namespace Go.Proofs.Ytiofkhfmdophpaa.B
open Go Go.RowKit Go.Proofs.YtiofkhfmdophpaaW.PrintWords Go.Proofs.YtiofkhfmdophpaaW.PrintLast Go.Proofs.YtiofkhfmdophpaaW.PrintMore
set_option linter.unusedVariables false
set_option maxRecDepth 100000 in
set_option maxHeartbeats 4000000 in
theorem law_Many (l0 : List Int) (hw0 : ∀ x ∈ l0, (Lit.int .u8 x).wf = true) (A0 : Option Addr) (c0 : Nat) (w : World) (r0 : Kd.C (Kd.int .u8) w A0 l0.length l0) (h0 : l0.length ≤ c0) (HT : TabW w) :
  Calls Try.prog 13 #[.slice A0 l0.length c0] w fun e w' => e = .returned (.bool true) ∧ Below w.heap.size w w' := by
 obtain ⟨x, y, hx, hy, hd0⟩ := drawAlike_any l0 hw0
 have D0 := Aside0.mk (hd0 A0 c0 w r0 h0)
 have HX := Aside0.mk (show Tiny x ∧ Tiny y from ⟨hx, hy.elim (fun e => e ▸ hx) (fun e => e ▸ tiny_moved hx)⟩)
 have HTT := Aside0.mk HT
 clear hd0 r0 h0 hx hy hw0 HT
 by_cases hlen : (1048576 : Int) < (l0.length : Int)
 ·go_enter Try.func13, Try.ntmps13
  go_wp2
  go_ret
  exact ⟨rfl, Below.refl _ _⟩
 go_enter Try.func13, Try.ntmps13
 go_wp2_with fail
 refine D0.out.mono ?_
 clear D0
 rintro e w1 ⟨B, d, B', d', rfl, hT, hT', hb⟩
 have H1 := Aside0.mk (show TV w1 x B d ∧ TV w1 y B' d' ∧ Below w.heap.size w w1 ∧ TabW w1  from ⟨hT, hT', hb, HTT.out.below hb⟩)
 clear hT hT' hb HTT
 go_wp2_with ((with_reducible refine gate_dst (N := 3) rfl ?_); refine new2_ (N := 3) (M := 4) (x := 15) (y := 16) (T := 32) (U := 32) (eA x B d) (eA y B' d') (zs := #[.int .i64 0, .int .i64 0, .int .i64 0, .int .i64 0, .slice none 0 0]) (ys := #[.int .i64 0, .int .i64 0, .int .i64 0, .int .i64 0, .slice none 0 0]) (eA_one _ _ _) (eA_one _ _ _) ?_ ?_ ?_ ?_ ?_ ?_ ?_ ?_ ?_ ?_ ?_ ?_ ?_ ?_ ?_ ?_ ?_ ?_ ?_ ?_ ?_ ?_ ?_ ?_ ?_ ?_ ?_ ?_)
 all_goals (first | rfl | decide | (intro _ _; go_simp; done) | kernel_rfl | skip)
 intro g3 g4 W1 hg3 hg4 hne bg3 bg4 hb
 simp only [Act.put, List.setIfInBounds_toArray, List.set_cons_zero, List.set_cons_succ]
 clear hg3 hg4 hne
 have H2 := Aside0.mk (show Box W1 g3 32 (eA x B d) ∧ Box W1 g4 32 (eA y B' d') ∧ TV W1 x B d ∧ TV W1 y B' d' ∧ Below w.heap.size w W1 ∧ TabW W1  from ⟨bg3, bg4, TV.last _ _ _ _ _ hb H1.out.1, TV.last _ _ _ _ _ hb H1.out.2.1, Below.trans H1.out.2.2.1 (hb.mono H1.out.2.2.1.size), TabW.lasts _ _ hb H1.out.2.2.2⟩)
 clear H1 bg3 bg4 hb
 have lb0 := H2.out.1
 go_wp2_with (first | ((with_reducible refine gate_dst (N := 17) rfl ?_); refine getE_ rfl rfl rfl rfl lb0 ?_))
 clear lb0
 refine (manyI_any x B d W1 H2.out.2.2.2.2.2 H2.out.2.2.1).mono ?_
 rintro e w2 ⟨rfl, hb⟩
 obtain ⟨m, hm⟩ : ∃ m, m = manyV x := ⟨_, rfl⟩
 rw [← hm]
 have M0 := Aside0.mk hm
 have hm0 : 0 ≤ m := by rw [hm]; exact (manyV_in x).1
 have hm1 : m ≤ 14 := by rw [hm]; exact (manyV_in x).2
 clear hm
 have H3 := Aside0.mk (show Box w2 g3 32 (eA x B d) ∧ Box w2 g4 32 (eA y B' d') ∧ TV w2 x B d ∧ TV w2 y B' d' ∧ Below w.heap.size w w2 ∧ TabW w2  from ⟨blk_below H2.out.1 hb, blk_below H2.out.2.1 hb, TV.last _ _ _ _ _ hb H2.out.2.2.1, TV.last _ _ _ _ _ hb H2.out.2.2.2.1, Below.trans H2.out.2.2.2.2.1 (hb.mono H2.out.2.2.2.2.1.size), TabW.lasts _ _ hb H2.out.2.2.2.2.2⟩)
 clear H2 hb
 go_wp2_with fail
 obtain ⟨al, hal⟩ : ∃ al, al = alikeL x y := ⟨_, rfl⟩
 have AL := Aside0.mk hal
 clear hal
 refine weaveB_ (fun W => Below w2.heap.size w2 W) (Lasts.below w2) (Below.refl _ _) [(19, 0), (20, 1), (21, 2), (22, 3), (23, 4), (24, 5), (25, 6), (26, 7), (27, 8), (28, 9), (29, 10), (30, 11), (31, 12), (32, 13), (33, 14), (34, 15), (35, 16), (36, 17), (37, 18)] [fun v _ => v = .int .i64 m, fun v _ => v = .agg (eA x B d), fun v _ => v = .int .i64 m, fun v _ => v = .bool false, fun v _ => v = .bool false, fun v _ => v = .agg (eA x B d), fun v _ => v = .agg (eA y B' d'), fun v _ => v = .bool al, fun v _ => v = .agg (eA x B d), fun v _ => v = .agg (eA y B' d'), fun v _ => v = .bool al, fun v _ => v = .bool false, fun v _ => v = .bool false, fun v _ => v = .bool false, fun v _ => v = .agg (eA x B d), fun v _ => v = .agg (eA x B d), fun v _ => v = .bool true, fun v _ => v = .bool false, fun v _ => v = .bool false] rfl (by kernel_rfl) ⟨fun _ => Lasts.const _, fun _ => Lasts.const _, fun _ => Lasts.const _, fun _ => Lasts.const _, fun _ => Lasts.const _, fun _ => Lasts.const _, fun _ => Lasts.const _, fun _ => Lasts.const _, fun _ => Lasts.const _, fun _ => Lasts.const _, fun _ => Lasts.const _, fun _ => Lasts.const _, fun _ => Lasts.const _, fun _ => Lasts.const _, fun _ => Lasts.const _, fun _ => Lasts.const _, fun _ => Lasts.const _, fun _ => Lasts.const _, fun _ => Lasts.const _, trivial⟩ ?_ ?_
 ·refine ⟨?_, ?_, ?_, ?_, ?_, ?_, ?_, ?_, ?_, ?_, ?_, ?_, ?_, ?_, ?_, ?_, ?_, ?_, ?_, trivial⟩
  ·intro vs W hp hv b hs
   have t5 : b.tmps[(5 : Nat)]? = some (.int .i64 m) := (hs.oldtm 5 rfl).trans rfl
   exact stepVal rfl (by go_simp) ⟨Below.refl _ _, rfl⟩
  ·intro vs W hp hv b hs
   exact stepGet rfl rfl ((hs.old 3 rfl).trans rfl) (blk_below H3.out.1 hp) Try.underlying32 rfl (by kernel_rfl) ⟨Below.refl _ _, rfl⟩
  ·intro vs W hp hv b hs
   have h1 : vs 1 = .agg (eA x B d) := hv 1 (by decide)
   have t20 := (hs.tm 20 1 rfl).trans (congrArg some h1)
   refine stepCall rfl Try.func28 (by kernel_rfl) rfl #[vs 1] rfl (by simp [Act.eval, hs.tm 20 1 rfl]) (by rw [h1]; exact manyS_any x HX.out.1.short B d W (TV.last _ _ _ _ _ hp H3.out.2.2.1)) ?_
   rintro e W' ⟨rfl, hb'⟩
   exact ⟨_, rfl, hb', congrArg (Value.int .i64) M0.out.symm⟩
  ·intro vs W hp hv b hs
   have h0 : vs 0 = .int .i64 m := hv 0 (by decide)
   have t19 := (hs.tm 19 0 rfl).trans (congrArg some h0)
   have h2 : vs 2 = .int .i64 m := hv 2 (by decide)
   have t21 := (hs.tm 21 2 rfl).trans (congrArg some h2)
   exact stepVal rfl (by go_simp) ⟨Below.refl _ _, rfl⟩
  ·intro vs W hp hv b hs
   have h3 : vs 3 = .bool false := hv 3 (by decide)
   have t22 := (hs.tm 22 3 rfl).trans (congrArg some h3)
   exact stepVal rfl (by go_simp) ⟨Below.refl _ _, rfl⟩
  ·intro vs W hp hv b hs
   have h4 : vs 4 = .bool false := hv 4 (by decide)
   exact stepGet (wanted_on rfl rfl ((hs.tm 23 4 rfl).trans (congrArg some h4))) rfl ((hs.old 3 rfl).trans rfl) (blk_below H3.out.1 hp) Try.underlying32 rfl (by kernel_rfl) ⟨Below.refl _ _, rfl⟩
  ·intro vs W hp hv b hs
   have h4 : vs 4 = .bool false := hv 4 (by decide)
   exact stepGet (wanted_on rfl rfl ((hs.tm 23 4 rfl).trans (congrArg some h4))) rfl ((hs.old 4 rfl).trans rfl) (blk_below H3.out.2.1 hp) Try.underlying32 rfl (by kernel_rfl) ⟨Below.refl _ _, rfl⟩
  ·intro vs W hp hv b hs
   have h4 : vs 4 = .bool false := hv 4 (by decide)
   have h5 : vs 5 = .agg (eA x B d) := hv 5 (by decide)
   have t24 := (hs.tm 24 5 rfl).trans (congrArg some h5)
   have h6 : vs 6 = .agg (eA y B' d') := hv 6 (by decide)
   have t25 := (hs.tm 25 6 rfl).trans (congrArg some h6)
   refine stepCall (wanted_on rfl rfl ((hs.tm 23 4 rfl).trans (congrArg some h4))) Try.func48 (by kernel_rfl) rfl #[vs 5, vs 6] rfl (by simp [Act.eval, hs.tm 24 5 rfl, hs.tm 25 6 rfl]) (by rw [h5, h6]; exact alikeI_any x y B d B' d' W (TV.last _ _ _ _ _ hp H3.out.2.2.1) (TV.last _ _ _ _ _ hp H3.out.2.2.2.1)) ?_
   rintro e W' ⟨rfl, hb'⟩
   exact ⟨_, rfl, hb', congrArg Value.bool AL.out.symm⟩
  ·intro vs W hp hv b hs
   have h4 : vs 4 = .bool false := hv 4 (by decide)
   exact stepGet (wanted_on rfl rfl ((hs.tm 23 4 rfl).trans (congrArg some h4))) rfl ((hs.old 3 rfl).trans rfl) (blk_below H3.out.1 hp) Try.underlying32 rfl (by kernel_rfl) ⟨Below.refl _ _, rfl⟩
  ·intro vs W hp hv b hs
   have h4 : vs 4 = .bool false := hv 4 (by decide)
   exact stepGet (wanted_on rfl rfl ((hs.tm 23 4 rfl).trans (congrArg some h4))) rfl ((hs.old 4 rfl).trans rfl) (blk_below H3.out.2.1 hp) Try.underlying32 rfl (by kernel_rfl) ⟨Below.refl _ _, rfl⟩
  ·intro vs W hp hv b hs
   have h4 : vs 4 = .bool false := hv 4 (by decide)
   have h8 : vs 8 = .agg (eA x B d) := hv 8 (by decide)
   have t27 := (hs.tm 27 8 rfl).trans (congrArg some h8)
   have h9 : vs 9 = .agg (eA y B' d') := hv 9 (by decide)
   have t28 := (hs.tm 28 9 rfl).trans (congrArg some h9)
   refine stepCall (wanted_on rfl rfl ((hs.tm 23 4 rfl).trans (congrArg some h4))) Try.func49 (by kernel_rfl) rfl #[vs 8, vs 9] rfl (by simp [Act.eval, hs.tm 27 8 rfl, hs.tm 28 9 rfl]) (by rw [h8, h9]; exact alikeS_any x y (tiny_iex HX.out.1) B d B' d' W (TV.last _ _ _ _ _ hp H3.out.2.2.1) (TV.last _ _ _ _ _ hp H3.out.2.2.2.1)) ?_
   rintro e W' ⟨rfl, hb'⟩
   exact ⟨_, rfl, hb', congrArg Value.bool AL.out.symm⟩
  ·intro vs W hp hv b hs
   have h4 : vs 4 = .bool false := hv 4 (by decide)
   have h7 : vs 7 = .bool al := hv 7 (by decide)
   have t26 := (hs.tm 26 7 rfl).trans (congrArg some h7)
   have h10 : vs 10 = .bool al := hv 10 (by decide)
   have t29 := (hs.tm 29 10 rfl).trans (congrArg some h10)
   exact stepVal (wanted_on rfl rfl ((hs.tm 23 4 rfl).trans (congrArg some h4))) (by go_simp) ⟨Below.refl _ _, rfl⟩
  ·intro vs W hp hv b hs
   have h4 : vs 4 = .bool false := hv 4 (by decide)
   have t23 := (hs.tm 23 4 rfl).trans (congrArg some h4)
   have h11 : vs 11 = .bool false := hv 11 (by decide)
   have t30 := (hs.tm 30 11 rfl).trans (congrArg some h11)
   exact stepVal rfl (by go_simp) ⟨Below.refl _ _, rfl⟩
  ·intro vs W hp hv b hs
   have h12 : vs 12 = .bool false := hv 12 (by decide)
   have t31 := (hs.tm 31 12 rfl).trans (congrArg some h12)
   exact stepVal rfl (by go_simp) ⟨Below.refl _ _, rfl⟩
  ·intro vs W hp hv b hs
   have h13 : vs 13 = .bool false := hv 13 (by decide)
   exact stepGet (wanted_on rfl rfl ((hs.tm 32 13 rfl).trans (congrArg some h13))) rfl ((hs.old 3 rfl).trans rfl) (blk_below H3.out.1 hp) Try.underlying32 rfl (by kernel_rfl) ⟨Below.refl _ _, rfl⟩
  ·intro vs W hp hv b hs
   have h13 : vs 13 = .bool false := hv 13 (by decide)
   exact stepGet (wanted_on rfl rfl ((hs.tm 32 13 rfl).trans (congrArg some h13))) rfl ((hs.old 3 rfl).trans rfl) (blk_below H3.out.1 hp) Try.underlying32 rfl (by kernel_rfl) ⟨Below.refl _ _, rfl⟩
  ·intro vs W hp hv b hs
   have h13 : vs 13 = .bool false := hv 13 (by decide)
   have h14 : vs 14 = .agg (eA x B d) := hv 14 (by decide)
   have t33 := (hs.tm 33 14 rfl).trans (congrArg some h14)
   have h15 : vs 15 = .agg (eA x B d) := hv 15 (by decide)
   have t34 := (hs.tm 34 15 rfl).trans (congrArg some h15)
   refine stepCall (wanted_on rfl rfl ((hs.tm 32 13 rfl).trans (congrArg some h13))) Try.func48 (by kernel_rfl) rfl #[vs 14, vs 15] rfl (by simp [Act.eval, hs.tm 33 14 rfl, hs.tm 34 15 rfl]) (by rw [h14, h15]; exact alikeI_any x x B d B d W (TV.last _ _ _ _ _ hp H3.out.2.2.1) (TV.last _ _ _ _ _ hp H3.out.2.2.1)) ?_
   rintro e W' ⟨rfl, hb'⟩
   exact ⟨_, rfl, hb', congrArg Value.bool (alikeL_self x)⟩
  ·intro vs W hp hv b hs
   have h13 : vs 13 = .bool false := hv 13 (by decide)
   have h16 : vs 16 = .bool true := hv 16 (by decide)
   have t35 := (hs.tm 35 16 rfl).trans (congrArg some h16)
   exact stepVal (wanted_on rfl rfl ((hs.tm 32 13 rfl).trans (congrArg some h13))) (by go_simp) ⟨Below.refl _ _, rfl⟩
  ·intro vs W hp hv b hs
   have h13 : vs 13 = .bool false := hv 13 (by decide)
   have t32 := (hs.tm 32 13 rfl).trans (congrArg some h13)
   have h17 : vs 17 = .bool false := hv 17 (by decide)
   have t36 := (hs.tm 36 17 rfl).trans (congrArg some h17)
   exact stepVal rfl (by go_simp) ⟨Below.refl _ _, rfl⟩
 intro vs WA hb hv
 have hres : vs 18 = .bool false := hv 18 (by decide)
 simp only [List.map_cons, List.map_nil, putL, Act.put, List.setIfInBounds_toArray, List.set_cons_zero, List.set_cons_succ, hres]
 clear hv hres
 have H4 := Aside0.mk (show Box WA g3 32 (eA x B d) ∧ Box WA g4 32 (eA y B' d') ∧ TV WA x B d ∧ TV WA y B' d' ∧ Below w.heap.size w WA ∧ TabW WA  from ⟨blk_below H3.out.1 hb, blk_below H3.out.2.1 hb, TV.last _ _ _ _ _ hb H3.out.2.2.1, TV.last _ _ _ _ _ hb H3.out.2.2.2.1, Below.trans H3.out.2.2.2.2.1 (hb.mono H3.out.2.2.2.2.1.size), TabW.lasts _ _ hb H3.out.2.2.2.2.2⟩)
 clear H3 hb AL
 have lb0 := H4.out.1
 go_wp2_with (first | ((with_reducible refine gate_dst (N := 38) rfl ?_); refine getE_ rfl rfl rfl rfl lb0 ?_) | ((with_reducible refine gate_dst (N := 39) rfl ?_); refine Kd.N_lit k32 _ 32 rfl (N' := 39) rfl (xs := ([x] : List Ex)) (inner := [.int .i64 x.f0, .int .i64 x.f1, .int .i64 x.f2.f0, .int .i64 x.f2.f1, .slice B x.f3.length d]) (ok := fun _ => True) (okp := fun _ => True) (by simp only [eA]; first | (go_simp; done) | (go_simp; rfl)) (Reps.c5 (show Kd.FK k32 _ _ x [.int .i64 x.f0, .int .i64 x.f1, .int .i64 x.f2.f0, .int .i64 x.f2.f1, .slice B x.f3.length d] from k32_mkF _ _ x (H4.out.2.2.1).reads.1 (Kd.V_F (H4.out.2.2.1).v)) (Reps.none _ _)) (fun _ hk => hk) trivial (Below.refl WA.heap.size WA) (Nat.le_refl _) (by simp) ?_; intro vL wL ho hbL hgL hnL; clear hgL hnL; obtain ⟨B6, d6, eL⟩ := Kd.N_slice ho; subst eL) | ((with_reducible refine gate_dst (N := 6) rfl ?_); refine new1_ (N := 6) (x := 40) (T := 32) (eA (n1 x) B6 d6) (zs := #[.int .i64 0, .int .i64 0, .int .i64 0, .int .i64 0, .slice none 0 0]) (eA_one _ _ _) ?_ ?_ ?_ ?_ ?_ ?_ ?_ ?_ ?_ ?_ ?_ ?_ ?_))
 all_goals (first | rfl | decide | (intro _ _; go_simp; done) | kernel_rfl | skip)
 intro g6 W3 hg6 bg6 hb9
 simp only [Act.put, List.setIfInBounds_toArray, List.set_cons_zero, List.set_cons_succ]
 clear hg6 lb0
 have hb := hbL.trans (hb9.mono hbL.size)
 have hTn : TV W3 (n1 x) B6 d6 := TV.last _ _ _ _ _ hb9 (TV.ofN ho fun _ _ => trivial)
 clear ho hbL hb9
 have H5 := Aside0.mk (show TV W3 (n1 x) B6 d6 ∧ Box W3 g6 32 (eA (n1 x) B6 d6) ∧ Box W3 g3 32 (eA x B d) ∧ Box W3 g4 32 (eA y B' d') ∧ TV W3 x B d ∧ TV W3 y B' d' ∧ Below w.heap.size w W3 ∧ TabW W3  from ⟨hTn, bg6, blk_below H4.out.1 hb, blk_below H4.out.2.1 hb, TV.last _ _ _ _ _ hb H4.out.2.2.1, TV.last _ _ _ _ _ hb H4.out.2.2.2.1, Below.trans H4.out.2.2.2.2.1 (hb.mono H4.out.2.2.2.2.1.size), TabW.lasts _ _ hb H4.out.2.2.2.2.2⟩)
 clear H4 hb hTn bg6
 have lb0 := H5.out.2.2.1
 have lb1 := H5.out.2.2.2.1
 go_wp2_with (first | ((with_reducible refine gate_dst (N := 41) rfl ?_); refine getE_ rfl rfl rfl rfl lb0 ?_) | ((with_reducible refine gate_dst (N := 42) rfl ?_); refine getE_ rfl rfl rfl rfl lb1 ?_) | ((with_reducible refine gate_dst (N := 43) rfl ?_); refine Kd.N_lit k32 _ 32 rfl (N' := 43) rfl (xs := ([x, y] : List Ex)) (inner := [.int .i64 x.f0, .int .i64 x.f1, .int .i64 x.f2.f0, .int .i64 x.f2.f1, .slice B x.f3.length d, .int .i64 y.f0, .int .i64 y.f1, .int .i64 y.f2.f0, .int .i64 y.f2.f1, .slice B' y.f3.length d']) (ok := fun _ => True) (okp := fun _ => True) (by simp only [eA]; first | (go_simp; done) | (go_simp; rfl)) (Reps.c5 (show Kd.FK k32 _ _ x [.int .i64 x.f0, .int .i64 x.f1, .int .i64 x.f2.f0, .int .i64 x.f2.f1, .slice B x.f3.length d] from k32_mkF _ _ x (H5.out.2.2.2.2.1).reads.1 (Kd.V_F (H5.out.2.2.2.2.1).v)) (Reps.c5 (show Kd.FK k32 _ _ y [.int .i64 y.f0, .int .i64 y.f1, .int .i64 y.f2.f0, .int .i64 y.f2.f1, .slice B' y.f3.length d'] from k32_mkF _ _ y (H5.out.2.2.2.2.2.1).reads.1 (Kd.V_F (H5.out.2.2.2.2.2.1).v)) (Reps.none _ _))) (fun _ hk => hk) trivial (Below.refl W3.heap.size W3) (Nat.le_refl _) (by simp) ?_; intro vL wL ho hbL hgL hnL; clear hgL hnL; obtain ⟨B7, d7, eL⟩ := Kd.N_slice ho; subst eL) | ((with_reducible refine gate_dst (N := 7) rfl ?_); refine new1_ (N := 7) (x := 44) (T := 32) (eA (n2 3 x y) B7 d7) (zs := #[.int .i64 0, .int .i64 0, .int .i64 0, .int .i64 0, .slice none 0 0]) (eA_one _ _ _) ?_ ?_ ?_ ?_ ?_ ?_ ?_ ?_ ?_ ?_ ?_ ?_ ?_))
 all_goals (first | rfl | decide | (intro _ _; go_simp; done) | kernel_rfl | skip)
 intro g7 W4 hg7 bg7 hb9
 simp only [Act.put, List.setIfInBounds_toArray, List.set_cons_zero, List.set_cons_succ]
 clear hg7 lb0 lb1
 have hb := hbL.trans (hb9.mono hbL.size)
 have hTn : TV W4 (n2 3 x y) B7 d7 := TV.last _ _ _ _ _ hb9 (TV.ofN ho fun _ _ => trivial)
 clear ho hbL hb9
 have H6 := Aside0.mk (show TV W4 (n2 3 x y) B7 d7 ∧ Box W4 g7 32 (eA (n2 3 x y) B7 d7) ∧ TV W4 (n1 x) B6 d6 ∧ Box W4 g6 32 (eA (n1 x) B6 d6) ∧ Box W4 g3 32 (eA x B d) ∧ Box W4 g4 32 (eA y B' d') ∧ TV W4 x B d ∧ TV W4 y B' d' ∧ Below w.heap.size w W4 ∧ TabW W4  from ⟨hTn, bg7, TV.last _ _ _ _ _ hb H5.out.1, blk_below H5.out.2.1 hb, blk_below H5.out.2.2.1 hb, blk_below H5.out.2.2.2.1 hb, TV.last _ _ _ _ _ hb H5.out.2.2.2.2.1, TV.last _ _ _ _ _ hb H5.out.2.2.2.2.2.1, Below.trans H5.out.2.2.2.2.2.2.1 (hb.mono H5.out.2.2.2.2.2.2.1.size), TabW.lasts _ _ hb H5.out.2.2.2.2.2.2.2⟩)
 clear H5 hb hTn bg7
 go_wp2_with fail
 obtain ⟨p, hp0⟩ : ∃ p, p = manyV y := ⟨_, rfl⟩
 have P0 := Aside0.mk hp0
 have hp1 : 0 ≤ p := by rw [hp0]; exact (manyV_in y).1
 have hp2 : p ≤ 14 := by rw [hp0]; exact (manyV_in y).2
 have wa : IntKind.i64.wrap (m + 1) = m + 1 := by rw [IntKind.wrap_i64]; omega
 have wb : IntKind.i64.wrap (m + p) = m + p := by rw [IntKind.wrap_i64]; omega
 have wc : IntKind.i64.wrap (m + p + 1) = m + p + 1 := by rw [IntKind.wrap_i64]; omega
 clear hp0
 obtain ⟨b1, hb1⟩ : ∃ b, b = okE (n1 x) := ⟨_, rfl⟩
 obtain ⟨b2, hb2⟩ : ∃ b, b = okE (n2 3 x y) := ⟨_, rfl⟩
 have Q1 := Aside0.mk hb1
 have Q2 := Aside0.mk hb2
 clear hb1 hb2
 cases b1
 ·cases b2
  ·skip
   refine weaveB_ (fun W => Below W4.heap.size W4 W) (Lasts.below W4) (Below.refl _ _) [(45, 0), (46, 1), (47, 2), (48, 3), (49, 4), (50, 5), (51, 6), (52, 7), (53, 8), (54, 9), (55, 10), (56, 11), (57, 12), (58, 13), (59, 14), (60, 15), (61, 16), (62, 17), (63, 18), (64, 19), (65, 20), (66, 21), (67, 22)] [fun v _ => v = .agg (eA (n1 x) B6 d6), fun v _ => v = .bool false, fun v _ => v = .bool false, fun v _ => True, fun v _ => True, fun v _ => True, fun v _ => True, fun v _ => True, fun v _ => v = .bool false, fun v _ => v = .bool false, fun v _ => v = .agg (eA (n2 3 x y) B7 d7), fun v _ => v = .bool false, fun v _ => v = .bool false, fun v _ => True, fun v _ => True, fun v _ => True, fun v _ => True, fun v _ => True, fun v _ => True, fun v _ => True, fun v _ => True, fun v _ => v = .bool false, fun v _ => v = .bool false] rfl (by kernel_rfl) ⟨fun _ => Lasts.const _, fun _ => Lasts.const _, fun _ => Lasts.const _, fun _ => Lasts.const _, fun _ => Lasts.const _, fun _ => Lasts.const _, fun _ => Lasts.const _, fun _ => Lasts.const _, fun _ => Lasts.const _, fun _ => Lasts.const _, fun _ => Lasts.const _, fun _ => Lasts.const _, fun _ => Lasts.const _, fun _ => Lasts.const _, fun _ => Lasts.const _, fun _ => Lasts.const _, fun _ => Lasts.const _, fun _ => Lasts.const _, fun _ => Lasts.const _, fun _ => Lasts.const _, fun _ => Lasts.const _, fun _ => Lasts.const _, fun _ => Lasts.const _, trivial⟩ ?_ ?_
   ·refine ⟨?_, ?_, ?_, ?_, ?_, ?_, ?_, ?_, ?_, ?_, ?_, ?_, ?_, ?_, ?_, ?_, ?_, ?_, ?_, ?_, ?_, ?_, ?_, trivial⟩
    ·intro vs W hp hv b hs
     exact stepGet rfl rfl ((hs.old 6 rfl).trans rfl) (blk_below H6.out.2.2.2.1 hp) Try.underlying32 rfl (by kernel_rfl) ⟨Below.refl _ _, rfl⟩
    ·intro vs W hp hv b hs
     have h0 : vs 0 = .agg (eA (n1 x) B6 d6) := hv 0 (by decide)
     have t45 := (hs.tm 45 0 rfl).trans (congrArg some h0)
     refine stepCall rfl Try.func18 (by kernel_rfl) rfl #[vs 0] rfl (by simp [Act.eval, hs.tm 45 0 rfl]) (by rw [h0]; exact implOk_any (n1 x) B6 d6 W (TV.last _ _ _ _ _ hp H6.out.2.2.1)) ?_
     rintro e W' ⟨rfl, hb'⟩
     exact ⟨_, rfl, hb', congrArg Value.bool Q1.out.symm⟩
    ·intro vs W hp hv b hs
     have h1 : vs 1 = .bool false := hv 1 (by decide)
     have t46 := (hs.tm 46 1 rfl).trans (congrArg some h1)
     exact stepVal rfl (by go_simp) ⟨Below.refl _ _, rfl⟩
    ·intro vs W hp hv b hs
     have h2 : vs 2 = .bool false := hv 2 (by decide)
     exact stepOff (wanted_off rfl rfl ((hs.tm 47 2 rfl).trans (congrArg some h2)) (by decide)) ⟨Below.refl _ _, trivial⟩
    ·intro vs W hp hv b hs
     have h2 : vs 2 = .bool false := hv 2 (by decide)
     exact stepOff (wanted_off rfl rfl ((hs.tm 47 2 rfl).trans (congrArg some h2)) (by decide)) ⟨Below.refl _ _, trivial⟩
    ·intro vs W hp hv b hs
     have h2 : vs 2 = .bool false := hv 2 (by decide)
     exact stepOff (wanted_off rfl rfl ((hs.tm 47 2 rfl).trans (congrArg some h2)) (by decide)) ⟨Below.refl _ _, trivial⟩
    ·intro vs W hp hv b hs
     have h2 : vs 2 = .bool false := hv 2 (by decide)
     exact stepOff (wanted_off rfl rfl ((hs.tm 47 2 rfl).trans (congrArg some h2)) (by decide)) ⟨Below.refl _ _, trivial⟩
    ·intro vs W hp hv b hs
     have h2 : vs 2 = .bool false := hv 2 (by decide)
     exact stepOff (wanted_off rfl rfl ((hs.tm 47 2 rfl).trans (congrArg some h2)) (by decide)) ⟨Below.refl _ _, trivial⟩
    ·intro vs W hp hv b hs
     have h2 : vs 2 = .bool false := hv 2 (by decide)
     have t47 := (hs.tm 47 2 rfl).trans (congrArg some h2)
     exact stepVal rfl (by go_simp) ⟨Below.refl _ _, rfl⟩
    ·intro vs W hp hv b hs
     have h8 : vs 8 = .bool false := hv 8 (by decide)
     have t53 := (hs.tm 53 8 rfl).trans (congrArg some h8)
     exact stepVal rfl (by go_simp) ⟨Below.refl _ _, rfl⟩
    ·intro vs W hp hv b hs
     have h9 : vs 9 = .bool false := hv 9 (by decide)
     exact stepGet (wanted_on rfl rfl ((hs.tm 54 9 rfl).trans (congrArg some h9))) rfl ((hs.old 7 rfl).trans rfl) (blk_below H6.out.2.1 hp) Try.underlying32 rfl (by kernel_rfl) ⟨Below.refl _ _, rfl⟩
    ·intro vs W hp hv b hs
     have h9 : vs 9 = .bool false := hv 9 (by decide)
     have h10 : vs 10 = .agg (eA (n2 3 x y) B7 d7) := hv 10 (by decide)
     have t55 := (hs.tm 55 10 rfl).trans (congrArg some h10)
     refine stepCall (wanted_on rfl rfl ((hs.tm 54 9 rfl).trans (congrArg some h9))) Try.func18 (by kernel_rfl) rfl #[vs 10] rfl (by simp [Act.eval, hs.tm 55 10 rfl]) (by rw [h10]; exact implOk_any (n2 3 x y) B7 d7 W (TV.last _ _ _ _ _ hp H6.out.1)) ?_
     rintro e W' ⟨rfl, hb'⟩
     exact ⟨_, rfl, hb', congrArg Value.bool Q2.out.symm⟩
    ·intro vs W hp hv b hs
     have h9 : vs 9 = .bool false := hv 9 (by decide)
     have h11 : vs 11 = .bool false := hv 11 (by decide)
     have t56 := (hs.tm 56 11 rfl).trans (congrArg some h11)
     exact stepVal (wanted_on rfl rfl ((hs.tm 54 9 rfl).trans (congrArg some h9))) (by go_simp) ⟨Below.refl _ _, rfl⟩
    ·intro vs W hp hv b hs
     have h12 : vs 12 = .bool false := hv 12 (by decide)
     exact stepOff (wanted_off rfl rfl ((hs.tm 57 12 rfl).trans (congrArg some h12)) (by decide)) ⟨Below.refl _ _, trivial⟩
    ·intro vs W hp hv b hs
     have h12 : vs 12 = .bool false := hv 12 (by decide)
     exact stepOff (wanted_off rfl rfl ((hs.tm 57 12 rfl).trans (congrArg some h12)) (by decide)) ⟨Below.refl _ _, trivial⟩
    ·intro vs W hp hv b hs
     have h12 : vs 12 = .bool false := hv 12 (by decide)
     exact stepOff (wanted_off rfl rfl ((hs.tm 57 12 rfl).trans (congrArg some h12)) (by decide)) ⟨Below.refl _ _, trivial⟩
    ·intro vs W hp hv b hs
     have h12 : vs 12 = .bool false := hv 12 (by decide)
     exact stepOff (wanted_off rfl rfl ((hs.tm 57 12 rfl).trans (congrArg some h12)) (by decide)) ⟨Below.refl _ _, trivial⟩
    ·intro vs W hp hv b hs
     have h12 : vs 12 = .bool false := hv 12 (by decide)
     exact stepOff (wanted_off rfl rfl ((hs.tm 57 12 rfl).trans (congrArg some h12)) (by decide)) ⟨Below.refl _ _, trivial⟩
    ·intro vs W hp hv b hs
     have h12 : vs 12 = .bool false := hv 12 (by decide)
     exact stepOff (wanted_off rfl rfl ((hs.tm 57 12 rfl).trans (congrArg some h12)) (by decide)) ⟨Below.refl _ _, trivial⟩
    ·intro vs W hp hv b hs
     have h12 : vs 12 = .bool false := hv 12 (by decide)
     exact stepOff (wanted_off rfl rfl ((hs.tm 57 12 rfl).trans (congrArg some h12)) (by decide)) ⟨Below.refl _ _, trivial⟩
    ·intro vs W hp hv b hs
     have h12 : vs 12 = .bool false := hv 12 (by decide)
     exact stepOff (wanted_off rfl rfl ((hs.tm 57 12 rfl).trans (congrArg some h12)) (by decide)) ⟨Below.refl _ _, trivial⟩
    ·intro vs W hp hv b hs
     have h9 : vs 9 = .bool false := hv 9 (by decide)
     have h12 : vs 12 = .bool false := hv 12 (by decide)
     have t57 := (hs.tm 57 12 rfl).trans (congrArg some h12)
     exact stepVal (wanted_on rfl rfl ((hs.tm 54 9 rfl).trans (congrArg some h9))) (by go_simp) ⟨Below.refl _ _, rfl⟩
    ·intro vs W hp hv b hs
     have h9 : vs 9 = .bool false := hv 9 (by decide)
     have t54 := (hs.tm 54 9 rfl).trans (congrArg some h9)
     have h21 : vs 21 = .bool false := hv 21 (by decide)
     have t66 := (hs.tm 66 21 rfl).trans (congrArg some h21)
     exact stepVal rfl (by go_simp) ⟨Below.refl _ _, rfl⟩
   intro vs WB hb hv
   have hres : vs 22 = .bool false := hv 22 (by decide)
   simp only [List.map_cons, List.map_nil, putL, Act.put, List.setIfInBounds_toArray, List.set_cons_zero, List.set_cons_succ, hres]
   clear hv hres
   have H7 := Aside0.mk (show TV WB (n2 3 x y) B7 d7 ∧ Box WB g7 32 (eA (n2 3 x y) B7 d7) ∧ TV WB (n1 x) B6 d6 ∧ Box WB g6 32 (eA (n1 x) B6 d6) ∧ Box WB g3 32 (eA x B d) ∧ Box WB g4 32 (eA y B' d') ∧ TV WB x B d ∧ TV WB y B' d' ∧ Below w.heap.size w WB ∧ TabW WB  from ⟨TV.last _ _ _ _ _ hb H6.out.1, blk_below H6.out.2.1 hb, TV.last _ _ _ _ _ hb H6.out.2.2.1, blk_below H6.out.2.2.2.1 hb, blk_below H6.out.2.2.2.2.1 hb, blk_below H6.out.2.2.2.2.2.1 hb, TV.last _ _ _ _ _ hb H6.out.2.2.2.2.2.2.1, TV.last _ _ _ _ _ hb H6.out.2.2.2.2.2.2.2.1, Below.trans H6.out.2.2.2.2.2.2.2.2.1 (hb.mono H6.out.2.2.2.2.2.2.2.2.1.size), TabW.lasts _ _ hb H6.out.2.2.2.2.2.2.2.2.2⟩)
   clear H6 hb
   go_wp2_with fail
   go_loopw [8] (fun i wr => ∃ (j : Nat), i = .int .i64 j ∧ Aside0 (j ≤ x.f3.length ∧ Below WB.heap.size WB wr)) (fun i _ => x.f3.length - (intOf i).toNat)
   case atStart => exact ⟨0, rfl, ⟨Nat.zero_le _, Below.refl _ _⟩⟩
   case round =>
    obtain ⟨j, rfl, HR⟩ := hrel
    rename World => VV
    have lc := (Box.cell (blk_below H7.out.2.2.2.2.1 HR.out.2) 4 (.slice B x.f3.length d) rfl).1
    have hx9 : x.f3.length ≤ 1000 := by have := HX.out.1; cases this; assumption
    by_cases h0 : 0 < m
    ·have bm : decide (0 < m) = true := decide_eq_true h0
     have ok0 : okE x = true := (manyV_pos x).1 (by rw [← M0.out]; exact h0)
     by_cases hj : j < x.f3.length
     ·have bj : decide ((j : Int) < (x.f3.length : Int)) = true := decide_eq_true (by omega)
      obtain ⟨ad, A4, c4, e0, k0, k1, k2, k3, k4, hl, hC⟩ := at_T32 ((TV.last _ _ _ _ _ HR.out.2 H7.out.2.2.2.2.2.2.1).reads.2) (j : Int) (by omega) (by omega)
      obtain ⟨z, hz⟩ : ∃ z, z = rd_T32 x.f3 (j : Int) := ⟨_, rfl⟩
      have hzm : z ∈ x.f3 := by
       rw [hz]
       simp [rd_T32, hj]
      rw [← hz] at k0 k1 k2 k3 k4 hl hC
      have okz : okE z = true := kid_okE ok0 hzm
      clear hz hzm
      subst e0
      simp only [Int.toNat_natCast] at k0 k1 k2 k3 k4
      go_wp2_with fail
      refine (impl_ExprOk.calls z.f0 z.f1 z.f2.f0 z.f2.f1 A4 c4 z.f3 _ VV hC hl (implOk z)).mono ?_
      rw [okz]
      rintro e V9 ⟨rfl, hb9⟩
      have HE := Aside0.mk (HR.out.2.trans (hb9.mono HR.out.2.size))
      have HJ := Aside0.mk hj
      clear hb9 hC k0 k1 k2 k3 k4 lc
      go_wp2
      go_roundw
      case rel => exact ⟨j + 1, by go_num, ⟨HJ.out, HE.out⟩⟩
      case measure => have := HJ.out; simp [intOf]; omega
     ·have bj : decide ((j : Int) < (x.f3.length : Int)) = false := decide_eq_false (by omega)
      have lb := blk_below H7.out.2.2.2.2.1 HR.out.2
      have tb := TV.last _ _ _ _ _ HR.out.2 H7.out.2.2.2.2.2.2.1
      have hB9 : Below w.heap.size w VV := Below.trans H7.out.2.2.2.2.2.2.2.2.1 (HR.out.2.mono (Below.size H7.out.2.2.2.2.2.2.2.2.1))
      have HB9 := Aside0.mk hB9
      clear hB9
      go_wp2_with ((with_reducible refine gate_dst (N := 88) rfl ?_); refine getE_ rfl rfl rfl rfl lb ?_)
      refine (specOk_any x HX.out.1.short B d VV tb).mono ?_
      rw [ok0]
      rintro e V9 ⟨rfl, hb9⟩
      have HE := Aside0.mk (HB9.out.trans (hb9.mono HB9.out.size))
      clear hb9 lb tb
      go_wp2
      go_ret
      exact ⟨rfl, HE.out⟩
    ·have bm : decide (0 < m) = false := decide_eq_false h0
     have ok0 : okE x = false := by
      cases h : okE x with
      | false => rfl
      | true => exact absurd (by rw [M0.out]; exact (manyV_pos x).2 h) h0
     by_cases hj : j < x.f3.length
     ·have bj : decide ((j : Int) < (x.f3.length : Int)) = true := decide_eq_true (by omega)
      have lb := blk_below H7.out.2.2.2.2.1 HR.out.2
      have tb := TV.last _ _ _ _ _ HR.out.2 H7.out.2.2.2.2.2.2.1
      have hB9 : Below w.heap.size w VV := Below.trans H7.out.2.2.2.2.2.2.2.2.1 (HR.out.2.mono (Below.size H7.out.2.2.2.2.2.2.2.2.1))
      have HB9 := Aside0.mk hB9
      clear hB9
      go_wp2_with ((with_reducible refine gate_dst (N := 88) rfl ?_); refine getE_ rfl rfl rfl rfl lb ?_)
      refine (specOk_any x HX.out.1.short B d VV tb).mono ?_
      rw [ok0]
      rintro e V9 ⟨rfl, hb9⟩
      have HE := Aside0.mk (HB9.out.trans (hb9.mono HB9.out.size))
      clear hb9 lb tb
      go_wp2
      go_ret
      exact ⟨rfl, HE.out⟩
     ·have bj : decide ((j : Int) < (x.f3.length : Int)) = false := decide_eq_false (by omega)
      have lb := blk_below H7.out.2.2.2.2.1 HR.out.2
      have tb := TV.last _ _ _ _ _ HR.out.2 H7.out.2.2.2.2.2.2.1
      have hB9 : Below w.heap.size w VV := Below.trans H7.out.2.2.2.2.2.2.2.2.1 (HR.out.2.mono (Below.size H7.out.2.2.2.2.2.2.2.2.1))
      have HB9 := Aside0.mk hB9
      clear hB9
      go_wp2_with ((with_reducible refine gate_dst (N := 88) rfl ?_); refine getE_ rfl rfl rfl rfl lb ?_)
      refine (specOk_any x HX.out.1.short B d VV tb).mono ?_
      rw [ok0]
      rintro e V9 ⟨rfl, hb9⟩
      have HE := Aside0.mk (HB9.out.trans (hb9.mono HB9.out.size))
      clear hb9 lb tb
      go_wp2
      go_ret
      exact ⟨rfl, HE.out⟩
  ·skip
   refine weaveB_ (fun W => Below W4.heap.size W4 W) (Lasts.below W4) (Below.refl _ _) [(45, 0), (46, 1), (47, 2), (48, 3), (49, 4), (50, 5), (51, 6), (52, 7), (53, 8), (54, 9), (55, 10), (56, 11), (57, 12), (58, 13), (59, 14), (60, 15), (61, 16), (62, 17), (63, 18), (64, 19), (65, 20), (66, 21), (67, 22)] [fun v _ => v = .agg (eA (n1 x) B6 d6), fun v _ => v = .bool false, fun v _ => v = .bool false, fun v _ => True, fun v _ => True, fun v _ => True, fun v _ => True, fun v _ => True, fun v _ => v = .bool false, fun v _ => v = .bool false, fun v _ => v = .agg (eA (n2 3 x y) B7 d7), fun v _ => v = .bool true, fun v _ => v = .bool true, fun v _ => v = .agg (eA (n2 3 x y) B7 d7), fun v _ => v = .int .i64 (m + p + 1), fun v _ => v = .int .i64 m, fun v _ => v = .agg (eA y B' d'), fun v _ => v = .int .i64 p, fun v _ => v = .int .i64 (m + p), fun v _ => v = .int .i64 (m + p + 1), fun v _ => v = .bool false, fun v _ => v = .bool false, fun v _ => v = .bool false] rfl (by kernel_rfl) ⟨fun _ => Lasts.const _, fun _ => Lasts.const _, fun _ => Lasts.const _, fun _ => Lasts.const _, fun _ => Lasts.const _, fun _ => Lasts.const _, fun _ => Lasts.const _, fun _ => Lasts.const _, fun _ => Lasts.const _, fun _ => Lasts.const _, fun _ => Lasts.const _, fun _ => Lasts.const _, fun _ => Lasts.const _, fun _ => Lasts.const _, fun _ => Lasts.const _, fun _ => Lasts.const _, fun _ => Lasts.const _, fun _ => Lasts.const _, fun _ => Lasts.const _, fun _ => Lasts.const _, fun _ => Lasts.const _, fun _ => Lasts.const _, fun _ => Lasts.const _, trivial⟩ ?_ ?_
   ·refine ⟨?_, ?_, ?_, ?_, ?_, ?_, ?_, ?_, ?_, ?_, ?_, ?_, ?_, ?_, ?_, ?_, ?_, ?_, ?_, ?_, ?_, ?_, ?_, trivial⟩
    ·intro vs W hp hv b hs
     exact stepGet rfl rfl ((hs.old 6 rfl).trans rfl) (blk_below H6.out.2.2.2.1 hp) Try.underlying32 rfl (by kernel_rfl) ⟨Below.refl _ _, rfl⟩
    ·intro vs W hp hv b hs
     have h0 : vs 0 = .agg (eA (n1 x) B6 d6) := hv 0 (by decide)
     have t45 := (hs.tm 45 0 rfl).trans (congrArg some h0)
     refine stepCall rfl Try.func18 (by kernel_rfl) rfl #[vs 0] rfl (by simp [Act.eval, hs.tm 45 0 rfl]) (by rw [h0]; exact implOk_any (n1 x) B6 d6 W (TV.last _ _ _ _ _ hp H6.out.2.2.1)) ?_
     rintro e W' ⟨rfl, hb'⟩
     exact ⟨_, rfl, hb', congrArg Value.bool Q1.out.symm⟩
    ·intro vs W hp hv b hs
     have h1 : vs 1 = .bool false := hv 1 (by decide)
     have t46 := (hs.tm 46 1 rfl).trans (congrArg some h1)
     exact stepVal rfl (by go_simp) ⟨Below.refl _ _, rfl⟩
    ·intro vs W hp hv b hs
     have h2 : vs 2 = .bool false := hv 2 (by decide)
     exact stepOff (wanted_off rfl rfl ((hs.tm 47 2 rfl).trans (congrArg some h2)) (by decide)) ⟨Below.refl _ _, trivial⟩
    ·intro vs W hp hv b hs
     have h2 : vs 2 = .bool false := hv 2 (by decide)
     exact stepOff (wanted_off rfl rfl ((hs.tm 47 2 rfl).trans (congrArg some h2)) (by decide)) ⟨Below.refl _ _, trivial⟩
    ·intro vs W hp hv b hs
     have h2 : vs 2 = .bool false := hv 2 (by decide)
     exact stepOff (wanted_off rfl rfl ((hs.tm 47 2 rfl).trans (congrArg some h2)) (by decide)) ⟨Below.refl _ _, trivial⟩
    ·intro vs W hp hv b hs
     have h2 : vs 2 = .bool false := hv 2 (by decide)
     exact stepOff (wanted_off rfl rfl ((hs.tm 47 2 rfl).trans (congrArg some h2)) (by decide)) ⟨Below.refl _ _, trivial⟩
    ·intro vs W hp hv b hs
     have h2 : vs 2 = .bool false := hv 2 (by decide)
     exact stepOff (wanted_off rfl rfl ((hs.tm 47 2 rfl).trans (congrArg some h2)) (by decide)) ⟨Below.refl _ _, trivial⟩
    ·intro vs W hp hv b hs
     have h2 : vs 2 = .bool false := hv 2 (by decide)
     have t47 := (hs.tm 47 2 rfl).trans (congrArg some h2)
     exact stepVal rfl (by go_simp) ⟨Below.refl _ _, rfl⟩
    ·intro vs W hp hv b hs
     have h8 : vs 8 = .bool false := hv 8 (by decide)
     have t53 := (hs.tm 53 8 rfl).trans (congrArg some h8)
     exact stepVal rfl (by go_simp) ⟨Below.refl _ _, rfl⟩
    ·intro vs W hp hv b hs
     have h9 : vs 9 = .bool false := hv 9 (by decide)
     exact stepGet (wanted_on rfl rfl ((hs.tm 54 9 rfl).trans (congrArg some h9))) rfl ((hs.old 7 rfl).trans rfl) (blk_below H6.out.2.1 hp) Try.underlying32 rfl (by kernel_rfl) ⟨Below.refl _ _, rfl⟩
    ·intro vs W hp hv b hs
     have h9 : vs 9 = .bool false := hv 9 (by decide)
     have h10 : vs 10 = .agg (eA (n2 3 x y) B7 d7) := hv 10 (by decide)
     have t55 := (hs.tm 55 10 rfl).trans (congrArg some h10)
     refine stepCall (wanted_on rfl rfl ((hs.tm 54 9 rfl).trans (congrArg some h9))) Try.func18 (by kernel_rfl) rfl #[vs 10] rfl (by simp [Act.eval, hs.tm 55 10 rfl]) (by rw [h10]; exact implOk_any (n2 3 x y) B7 d7 W (TV.last _ _ _ _ _ hp H6.out.1)) ?_
     rintro e W' ⟨rfl, hb'⟩
     exact ⟨_, rfl, hb', congrArg Value.bool Q2.out.symm⟩
    ·intro vs W hp hv b hs
     have h9 : vs 9 = .bool false := hv 9 (by decide)
     have h11 : vs 11 = .bool true := hv 11 (by decide)
     have t56 := (hs.tm 56 11 rfl).trans (congrArg some h11)
     exact stepVal (wanted_on rfl rfl ((hs.tm 54 9 rfl).trans (congrArg some h9))) (by go_simp) ⟨Below.refl _ _, rfl⟩
    ·intro vs W hp hv b hs
     have h12 : vs 12 = .bool true := hv 12 (by decide)
     exact stepGet (wanted_on rfl rfl ((hs.tm 57 12 rfl).trans (congrArg some h12))) rfl ((hs.old 7 rfl).trans rfl) (blk_below H6.out.2.1 hp) Try.underlying32 rfl (by kernel_rfl) ⟨Below.refl _ _, rfl⟩
    ·intro vs W hp hv b hs
     have h12 : vs 12 = .bool true := hv 12 (by decide)
     have h13 : vs 13 = .agg (eA (n2 3 x y) B7 d7) := hv 13 (by decide)
     have t58 := (hs.tm 58 13 rfl).trans (congrArg some h13)
     refine stepCall (wanted_on rfl rfl ((hs.tm 57 12 rfl).trans (congrArg some h12))) Try.func29 (by kernel_rfl) rfl #[vs 13] rfl (by simp [Act.eval, hs.tm 58 13 rfl]) (by rw [h13]; exact manyI_any (n2 3 x y) B7 d7 W (TabW.lasts _ _ hp H6.out.2.2.2.2.2.2.2.2.2) (TV.last _ _ _ _ _ hp H6.out.1)) ?_
     rintro e W' ⟨rfl, hb'⟩
     exact ⟨_, rfl, hb', congrArg (Value.int .i64) (by rw [manyV_n2 (by decide) Q2.out.symm, ← M0.out, ← P0.out])⟩
    ·intro vs W hp hv b hs
     have h12 : vs 12 = .bool true := hv 12 (by decide)
     have t5 : b.tmps[(5 : Nat)]? = some (.int .i64 m) := (hs.oldtm 5 rfl).trans rfl
     exact stepVal (wanted_on rfl rfl ((hs.tm 57 12 rfl).trans (congrArg some h12))) (by go_simp) ⟨Below.refl _ _, rfl⟩
    ·intro vs W hp hv b hs
     have h12 : vs 12 = .bool true := hv 12 (by decide)
     exact stepGet (wanted_on rfl rfl ((hs.tm 57 12 rfl).trans (congrArg some h12))) rfl ((hs.old 4 rfl).trans rfl) (blk_below H6.out.2.2.2.2.2.1 hp) Try.underlying32 rfl (by kernel_rfl) ⟨Below.refl _ _, rfl⟩
    ·intro vs W hp hv b hs
     have h12 : vs 12 = .bool true := hv 12 (by decide)
     have h16 : vs 16 = .agg (eA y B' d') := hv 16 (by decide)
     have t61 := (hs.tm 61 16 rfl).trans (congrArg some h16)
     refine stepCall (wanted_on rfl rfl ((hs.tm 57 12 rfl).trans (congrArg some h12))) Try.func29 (by kernel_rfl) rfl #[vs 16] rfl (by simp [Act.eval, hs.tm 61 16 rfl]) (by rw [h16]; exact manyI_any y B' d' W (TabW.lasts _ _ hp H6.out.2.2.2.2.2.2.2.2.2) (TV.last _ _ _ _ _ hp H6.out.2.2.2.2.2.2.2.1)) ?_
     rintro e W' ⟨rfl, hb'⟩
     exact ⟨_, rfl, hb', congrArg (Value.int .i64) P0.out.symm⟩
    ·intro vs W hp hv b hs
     have h12 : vs 12 = .bool true := hv 12 (by decide)
     have h15 : vs 15 = .int .i64 m := hv 15 (by decide)
     have t60 := (hs.tm 60 15 rfl).trans (congrArg some h15)
     have h17 : vs 17 = .int .i64 p := hv 17 (by decide)
     have t62 := (hs.tm 62 17 rfl).trans (congrArg some h17)
     exact stepVal (wanted_on rfl rfl ((hs.tm 57 12 rfl).trans (congrArg some h12))) (by go_simp) ⟨Below.refl _ _, rfl⟩
    ·intro vs W hp hv b hs
     have h12 : vs 12 = .bool true := hv 12 (by decide)
     have h18 : vs 18 = .int .i64 (m + p) := hv 18 (by decide)
     have t63 := (hs.tm 63 18 rfl).trans (congrArg some h18)
     exact stepVal (wanted_on rfl rfl ((hs.tm 57 12 rfl).trans (congrArg some h12))) (by go_simp) ⟨Below.refl _ _, rfl⟩
    ·intro vs W hp hv b hs
     have h12 : vs 12 = .bool true := hv 12 (by decide)
     have h14 : vs 14 = .int .i64 (m + p + 1) := hv 14 (by decide)
     have t59 := (hs.tm 59 14 rfl).trans (congrArg some h14)
     have h19 : vs 19 = .int .i64 (m + p + 1) := hv 19 (by decide)
     have t64 := (hs.tm 64 19 rfl).trans (congrArg some h19)
     exact stepVal (wanted_on rfl rfl ((hs.tm 57 12 rfl).trans (congrArg some h12))) (by go_simp) ⟨Below.refl _ _, rfl⟩
    ·intro vs W hp hv b hs
     have h9 : vs 9 = .bool false := hv 9 (by decide)
     have h12 : vs 12 = .bool true := hv 12 (by decide)
     have t57 := (hs.tm 57 12 rfl).trans (congrArg some h12)
     have h20 : vs 20 = .bool false := hv 20 (by decide)
     have t65 := (hs.tm 65 20 rfl).trans (congrArg some h20)
     exact stepVal (wanted_on rfl rfl ((hs.tm 54 9 rfl).trans (congrArg some h9))) (by go_simp) ⟨Below.refl _ _, rfl⟩
    ·intro vs W hp hv b hs
     have h9 : vs 9 = .bool false := hv 9 (by decide)
     have t54 := (hs.tm 54 9 rfl).trans (congrArg some h9)
     have h21 : vs 21 = .bool false := hv 21 (by decide)
     have t66 := (hs.tm 66 21 rfl).trans (congrArg some h21)
     exact stepVal rfl (by go_simp) ⟨Below.refl _ _, rfl⟩
   intro vs WB hb hv
   have hres : vs 22 = .bool false := hv 22 (by decide)
   simp only [List.map_cons, List.map_nil, putL, Act.put, List.setIfInBounds_toArray, List.set_cons_zero, List.set_cons_succ, hres]
   clear hv hres
   have H8 := Aside0.mk (show TV WB (n2 3 x y) B7 d7 ∧ Box WB g7 32 (eA (n2 3 x y) B7 d7) ∧ TV WB (n1 x) B6 d6 ∧ Box WB g6 32 (eA (n1 x) B6 d6) ∧ Box WB g3 32 (eA x B d) ∧ Box WB g4 32 (eA y B' d') ∧ TV WB x B d ∧ TV WB y B' d' ∧ Below w.heap.size w WB ∧ TabW WB  from ⟨TV.last _ _ _ _ _ hb H6.out.1, blk_below H6.out.2.1 hb, TV.last _ _ _ _ _ hb H6.out.2.2.1, blk_below H6.out.2.2.2.1 hb, blk_below H6.out.2.2.2.2.1 hb, blk_below H6.out.2.2.2.2.2.1 hb, TV.last _ _ _ _ _ hb H6.out.2.2.2.2.2.2.1, TV.last _ _ _ _ _ hb H6.out.2.2.2.2.2.2.2.1, Below.trans H6.out.2.2.2.2.2.2.2.2.1 (hb.mono H6.out.2.2.2.2.2.2.2.2.1.size), TabW.lasts _ _ hb H6.out.2.2.2.2.2.2.2.2.2⟩)
   clear H6 hb
   go_wp2_with fail
   go_loopw [8] (fun i wr => ∃ (j : Nat), i = .int .i64 j ∧ Aside0 (j ≤ x.f3.length ∧ Below WB.heap.size WB wr)) (fun i _ => x.f3.length - (intOf i).toNat)
   case atStart => exact ⟨0, rfl, ⟨Nat.zero_le _, Below.refl _ _⟩⟩
   case round =>
    obtain ⟨j, rfl, HR⟩ := hrel
    rename World => VV
    have lc := (Box.cell (blk_below H8.out.2.2.2.2.1 HR.out.2) 4 (.slice B x.f3.length d) rfl).1
    have hx9 : x.f3.length ≤ 1000 := by have := HX.out.1; cases this; assumption
    by_cases h0 : 0 < m
    ·have bm : decide (0 < m) = true := decide_eq_true h0
     have ok0 : okE x = true := (manyV_pos x).1 (by rw [← M0.out]; exact h0)
     by_cases hj : j < x.f3.length
     ·have bj : decide ((j : Int) < (x.f3.length : Int)) = true := decide_eq_true (by omega)
      obtain ⟨ad, A4, c4, e0, k0, k1, k2, k3, k4, hl, hC⟩ := at_T32 ((TV.last _ _ _ _ _ HR.out.2 H8.out.2.2.2.2.2.2.1).reads.2) (j : Int) (by omega) (by omega)
      obtain ⟨z, hz⟩ : ∃ z, z = rd_T32 x.f3 (j : Int) := ⟨_, rfl⟩
      have hzm : z ∈ x.f3 := by
       rw [hz]
       simp [rd_T32, hj]
      rw [← hz] at k0 k1 k2 k3 k4 hl hC
      have okz : okE z = true := kid_okE ok0 hzm
      clear hz hzm
      subst e0
      simp only [Int.toNat_natCast] at k0 k1 k2 k3 k4
      go_wp2_with fail
      refine (impl_ExprOk.calls z.f0 z.f1 z.f2.f0 z.f2.f1 A4 c4 z.f3 _ VV hC hl (implOk z)).mono ?_
      rw [okz]
      rintro e V9 ⟨rfl, hb9⟩
      have HE := Aside0.mk (HR.out.2.trans (hb9.mono HR.out.2.size))
      have HJ := Aside0.mk hj
      clear hb9 hC k0 k1 k2 k3 k4 lc
      go_wp2
      go_roundw
      case rel => exact ⟨j + 1, by go_num, ⟨HJ.out, HE.out⟩⟩
      case measure => have := HJ.out; simp [intOf]; omega
     ·have bj : decide ((j : Int) < (x.f3.length : Int)) = false := decide_eq_false (by omega)
      have lb := blk_below H8.out.2.2.2.2.1 HR.out.2
      have tb := TV.last _ _ _ _ _ HR.out.2 H8.out.2.2.2.2.2.2.1
      have hB9 : Below w.heap.size w VV := Below.trans H8.out.2.2.2.2.2.2.2.2.1 (HR.out.2.mono (Below.size H8.out.2.2.2.2.2.2.2.2.1))
      have HB9 := Aside0.mk hB9
      clear hB9
      go_wp2_with ((with_reducible refine gate_dst (N := 88) rfl ?_); refine getE_ rfl rfl rfl rfl lb ?_)
      refine (specOk_any x HX.out.1.short B d VV tb).mono ?_
      rw [ok0]
      rintro e V9 ⟨rfl, hb9⟩
      have HE := Aside0.mk (HB9.out.trans (hb9.mono HB9.out.size))
      clear hb9 lb tb
      go_wp2
      go_ret
      exact ⟨rfl, HE.out⟩
    ·have bm : decide (0 < m) = false := decide_eq_false h0
     have ok0 : okE x = false := by
      cases h : okE x with
      | false => rfl
      | true => exact absurd (by rw [M0.out]; exact (manyV_pos x).2 h) h0
     by_cases hj : j < x.f3.length
     ·have bj : decide ((j : Int) < (x.f3.length : Int)) = true := decide_eq_true (by omega)
      have lb := blk_below H8.out.2.2.2.2.1 HR.out.2
      have tb := TV.last _ _ _ _ _ HR.out.2 H8.out.2.2.2.2.2.2.1
      have hB9 : Below w.heap.size w VV := Below.trans H8.out.2.2.2.2.2.2.2.2.1 (HR.out.2.mono (Below.size H8.out.2.2.2.2.2.2.2.2.1))
      have HB9 := Aside0.mk hB9
      clear hB9
      go_wp2_with ((with_reducible refine gate_dst (N := 88) rfl ?_); refine getE_ rfl rfl rfl rfl lb ?_)
      refine (specOk_any x HX.out.1.short B d VV tb).mono ?_
      rw [ok0]
      rintro e V9 ⟨rfl, hb9⟩
      have HE := Aside0.mk (HB9.out.trans (hb9.mono HB9.out.size))
      clear hb9 lb tb
      go_wp2
      go_ret
      exact ⟨rfl, HE.out⟩
     ·have bj : decide ((j : Int) < (x.f3.length : Int)) = false := decide_eq_false (by omega)
      have lb := blk_below H8.out.2.2.2.2.1 HR.out.2
      have tb := TV.last _ _ _ _ _ HR.out.2 H8.out.2.2.2.2.2.2.1
      have hB9 : Below w.heap.size w VV := Below.trans H8.out.2.2.2.2.2.2.2.2.1 (HR.out.2.mono (Below.size H8.out.2.2.2.2.2.2.2.2.1))
      have HB9 := Aside0.mk hB9
      clear hB9
      go_wp2_with ((with_reducible refine gate_dst (N := 88) rfl ?_); refine getE_ rfl rfl rfl rfl lb ?_)
      refine (specOk_any x HX.out.1.short B d VV tb).mono ?_
      rw [ok0]
      rintro e V9 ⟨rfl, hb9⟩
      have HE := Aside0.mk (HB9.out.trans (hb9.mono HB9.out.size))
      clear hb9 lb tb
      go_wp2
      go_ret
      exact ⟨rfl, HE.out⟩
 ·cases b2
  ·skip
   refine weaveB_ (fun W => Below W4.heap.size W4 W) (Lasts.below W4) (Below.refl _ _) [(45, 0), (46, 1), (47, 2), (48, 3), (49, 4), (50, 5), (51, 6), (52, 7), (53, 8), (54, 9), (55, 10), (56, 11), (57, 12), (58, 13), (59, 14), (60, 15), (61, 16), (62, 17), (63, 18), (64, 19), (65, 20), (66, 21), (67, 22)] [fun v _ => v = .agg (eA (n1 x) B6 d6), fun v _ => v = .bool true, fun v _ => v = .bool true, fun v _ => v = .agg (eA (n1 x) B6 d6), fun v _ => v = .int .i64 (m + 1), fun v _ => v = .int .i64 m, fun v _ => v = .int .i64 (m + 1), fun v _ => v = .bool false, fun v _ => v = .bool false, fun v _ => v = .bool false, fun v _ => v = .agg (eA (n2 3 x y) B7 d7), fun v _ => v = .bool false, fun v _ => v = .bool false, fun v _ => True, fun v _ => True, fun v _ => True, fun v _ => True, fun v _ => True, fun v _ => True, fun v _ => True, fun v _ => True, fun v _ => v = .bool false, fun v _ => v = .bool false] rfl (by kernel_rfl) ⟨fun _ => Lasts.const _, fun _ => Lasts.const _, fun _ => Lasts.const _, fun _ => Lasts.const _, fun _ => Lasts.const _, fun _ => Lasts.const _, fun _ => Lasts.const _, fun _ => Lasts.const _, fun _ => Lasts.const _, fun _ => Lasts.const _, fun _ => Lasts.const _, fun _ => Lasts.const _, fun _ => Lasts.const _, fun _ => Lasts.const _, fun _ => Lasts.const _, fun _ => Lasts.const _, fun _ => Lasts.const _, fun _ => Lasts.const _, fun _ => Lasts.const _, fun _ => Lasts.const _, fun _ => Lasts.const _, fun _ => Lasts.const _, fun _ => Lasts.const _, trivial⟩ ?_ ?_
   ·refine ⟨?_, ?_, ?_, ?_, ?_, ?_, ?_, ?_, ?_, ?_, ?_, ?_, ?_, ?_, ?_, ?_, ?_, ?_, ?_, ?_, ?_, ?_, ?_, trivial⟩
    ·intro vs W hp hv b hs
     exact stepGet rfl rfl ((hs.old 6 rfl).trans rfl) (blk_below H6.out.2.2.2.1 hp) Try.underlying32 rfl (by kernel_rfl) ⟨Below.refl _ _, rfl⟩
    ·intro vs W hp hv b hs
     have h0 : vs 0 = .agg (eA (n1 x) B6 d6) := hv 0 (by decide)
     have t45 := (hs.tm 45 0 rfl).trans (congrArg some h0)
     refine stepCall rfl Try.func18 (by kernel_rfl) rfl #[vs 0] rfl (by simp [Act.eval, hs.tm 45 0 rfl]) (by rw [h0]; exact implOk_any (n1 x) B6 d6 W (TV.last _ _ _ _ _ hp H6.out.2.2.1)) ?_
     rintro e W' ⟨rfl, hb'⟩
     exact ⟨_, rfl, hb', congrArg Value.bool Q1.out.symm⟩
    ·intro vs W hp hv b hs
     have h1 : vs 1 = .bool true := hv 1 (by decide)
     have t46 := (hs.tm 46 1 rfl).trans (congrArg some h1)
     exact stepVal rfl (by go_simp) ⟨Below.refl _ _, rfl⟩
    ·intro vs W hp hv b hs
     have h2 : vs 2 = .bool true := hv 2 (by decide)
     exact stepGet (wanted_on rfl rfl ((hs.tm 47 2 rfl).trans (congrArg some h2))) rfl ((hs.old 6 rfl).trans rfl) (blk_below H6.out.2.2.2.1 hp) Try.underlying32 rfl (by kernel_rfl) ⟨Below.refl _ _, rfl⟩
    ·intro vs W hp hv b hs
     have h2 : vs 2 = .bool true := hv 2 (by decide)
     have h3 : vs 3 = .agg (eA (n1 x) B6 d6) := hv 3 (by decide)
     have t48 := (hs.tm 48 3 rfl).trans (congrArg some h3)
     refine stepCall (wanted_on rfl rfl ((hs.tm 47 2 rfl).trans (congrArg some h2))) Try.func29 (by kernel_rfl) rfl #[vs 3] rfl (by simp [Act.eval, hs.tm 48 3 rfl]) (by rw [h3]; exact manyI_any (n1 x) B6 d6 W (TabW.lasts _ _ hp H6.out.2.2.2.2.2.2.2.2.2) (TV.last _ _ _ _ _ hp H6.out.2.2.1)) ?_
     rintro e W' ⟨rfl, hb'⟩
     exact ⟨_, rfl, hb', congrArg (Value.int .i64) (by rw [manyV_n1 Q1.out.symm, ← M0.out])⟩
    ·intro vs W hp hv b hs
     have h2 : vs 2 = .bool true := hv 2 (by decide)
     have t5 : b.tmps[(5 : Nat)]? = some (.int .i64 m) := (hs.oldtm 5 rfl).trans rfl
     exact stepVal (wanted_on rfl rfl ((hs.tm 47 2 rfl).trans (congrArg some h2))) (by go_simp) ⟨Below.refl _ _, rfl⟩
    ·intro vs W hp hv b hs
     have h2 : vs 2 = .bool true := hv 2 (by decide)
     have h5 : vs 5 = .int .i64 m := hv 5 (by decide)
     have t50 := (hs.tm 50 5 rfl).trans (congrArg some h5)
     exact stepVal (wanted_on rfl rfl ((hs.tm 47 2 rfl).trans (congrArg some h2))) (by go_simp) ⟨Below.refl _ _, rfl⟩
    ·intro vs W hp hv b hs
     have h2 : vs 2 = .bool true := hv 2 (by decide)
     have h4 : vs 4 = .int .i64 (m + 1) := hv 4 (by decide)
     have t49 := (hs.tm 49 4 rfl).trans (congrArg some h4)
     have h6 : vs 6 = .int .i64 (m + 1) := hv 6 (by decide)
     have t51 := (hs.tm 51 6 rfl).trans (congrArg some h6)
     exact stepVal (wanted_on rfl rfl ((hs.tm 47 2 rfl).trans (congrArg some h2))) (by go_simp) ⟨Below.refl _ _, rfl⟩
    ·intro vs W hp hv b hs
     have h2 : vs 2 = .bool true := hv 2 (by decide)
     have t47 := (hs.tm 47 2 rfl).trans (congrArg some h2)
     have h7 : vs 7 = .bool false := hv 7 (by decide)
     have t52 := (hs.tm 52 7 rfl).trans (congrArg some h7)
     exact stepVal rfl (by go_simp) ⟨Below.refl _ _, rfl⟩
    ·intro vs W hp hv b hs
     have h8 : vs 8 = .bool false := hv 8 (by decide)
     have t53 := (hs.tm 53 8 rfl).trans (congrArg some h8)
     exact stepVal rfl (by go_simp) ⟨Below.refl _ _, rfl⟩
    ·intro vs W hp hv b hs
     have h9 : vs 9 = .bool false := hv 9 (by decide)
     exact stepGet (wanted_on rfl rfl ((hs.tm 54 9 rfl).trans (congrArg some h9))) rfl ((hs.old 7 rfl).trans rfl) (blk_below H6.out.2.1 hp) Try.underlying32 rfl (by kernel_rfl) ⟨Below.refl _ _, rfl⟩
    ·intro vs W hp hv b hs
     have h9 : vs 9 = .bool false := hv 9 (by decide)
     have h10 : vs 10 = .agg (eA (n2 3 x y) B7 d7) := hv 10 (by decide)
     have t55 := (hs.tm 55 10 rfl).trans (congrArg some h10)
     refine stepCall (wanted_on rfl rfl ((hs.tm 54 9 rfl).trans (congrArg some h9))) Try.func18 (by kernel_rfl) rfl #[vs 10] rfl (by simp [Act.eval, hs.tm 55 10 rfl]) (by rw [h10]; exact implOk_any (n2 3 x y) B7 d7 W (TV.last _ _ _ _ _ hp H6.out.1)) ?_
     rintro e W' ⟨rfl, hb'⟩
     exact ⟨_, rfl, hb', congrArg Value.bool Q2.out.symm⟩
    ·intro vs W hp hv b hs
     have h9 : vs 9 = .bool false := hv 9 (by decide)
     have h11 : vs 11 = .bool false := hv 11 (by decide)
     have t56 := (hs.tm 56 11 rfl).trans (congrArg some h11)
     exact stepVal (wanted_on rfl rfl ((hs.tm 54 9 rfl).trans (congrArg some h9))) (by go_simp) ⟨Below.refl _ _, rfl⟩
    ·intro vs W hp hv b hs
     have h12 : vs 12 = .bool false := hv 12 (by decide)
     exact stepOff (wanted_off rfl rfl ((hs.tm 57 12 rfl).trans (congrArg some h12)) (by decide)) ⟨Below.refl _ _, trivial⟩
    ·intro vs W hp hv b hs
     have h12 : vs 12 = .bool false := hv 12 (by decide)
     exact stepOff (wanted_off rfl rfl ((hs.tm 57 12 rfl).trans (congrArg some h12)) (by decide)) ⟨Below.refl _ _, trivial⟩
    ·intro vs W hp hv b hs
     have h12 : vs 12 = .bool false := hv 12 (by decide)
     exact stepOff (wanted_off rfl rfl ((hs.tm 57 12 rfl).trans (congrArg some h12)) (by decide)) ⟨Below.refl _ _, trivial⟩
    ·intro vs W hp hv b hs
     have h12 : vs 12 = .bool false := hv 12 (by decide)
     exact stepOff (wanted_off rfl rfl ((hs.tm 57 12 rfl).trans (congrArg some h12)) (by decide)) ⟨Below.refl _ _, trivial⟩
    ·intro vs W hp hv b hs
     have h12 : vs 12 = .bool false := hv 12 (by decide)
     exact stepOff (wanted_off rfl rfl ((hs.tm 57 12 rfl).trans (congrArg some h12)) (by decide)) ⟨Below.refl _ _, trivial⟩
    ·intro vs W hp hv b hs
     have h12 : vs 12 = .bool false := hv 12 (by decide)
     exact stepOff (wanted_off rfl rfl ((hs.tm 57 12 rfl).trans (congrArg some h12)) (by decide)) ⟨Below.refl _ _, trivial⟩
    ·intro vs W hp hv b hs
     have h12 : vs 12 = .bool false := hv 12 (by decide)
     exact stepOff (wanted_off rfl rfl ((hs.tm 57 12 rfl).trans (congrArg some h12)) (by decide)) ⟨Below.refl _ _, trivial⟩
    ·intro vs W hp hv b hs
     have h12 : vs 12 = .bool false := hv 12 (by decide)
     exact stepOff (wanted_off rfl rfl ((hs.tm 57 12 rfl).trans (congrArg some h12)) (by decide)) ⟨Below.refl _ _, trivial⟩
    ·intro vs W hp hv b hs
     have h9 : vs 9 = .bool false := hv 9 (by decide)
     have h12 : vs 12 = .bool false := hv 12 (by decide)
     have t57 := (hs.tm 57 12 rfl).trans (congrArg some h12)
     exact stepVal (wanted_on rfl rfl ((hs.tm 54 9 rfl).trans (congrArg some h9))) (by go_simp) ⟨Below.refl _ _, rfl⟩
    ·intro vs W hp hv b hs
     have h9 : vs 9 = .bool false := hv 9 (by decide)
     have t54 := (hs.tm 54 9 rfl).trans (congrArg some h9)
     have h21 : vs 21 = .bool false := hv 21 (by decide)
     have t66 := (hs.tm 66 21 rfl).trans (congrArg some h21)
     exact stepVal rfl (by go_simp) ⟨Below.refl _ _, rfl⟩
   intro vs WB hb hv
   have hres : vs 22 = .bool false := hv 22 (by decide)
   simp only [List.map_cons, List.map_nil, putL, Act.put, List.setIfInBounds_toArray, List.set_cons_zero, List.set_cons_succ, hres]
   clear hv hres
   have H9 := Aside0.mk (show TV WB (n2 3 x y) B7 d7 ∧ Box WB g7 32 (eA (n2 3 x y) B7 d7) ∧ TV WB (n1 x) B6 d6 ∧ Box WB g6 32 (eA (n1 x) B6 d6) ∧ Box WB g3 32 (eA x B d) ∧ Box WB g4 32 (eA y B' d') ∧ TV WB x B d ∧ TV WB y B' d' ∧ Below w.heap.size w WB ∧ TabW WB  from ⟨TV.last _ _ _ _ _ hb H6.out.1, blk_below H6.out.2.1 hb, TV.last _ _ _ _ _ hb H6.out.2.2.1, blk_below H6.out.2.2.2.1 hb, blk_below H6.out.2.2.2.2.1 hb, blk_below H6.out.2.2.2.2.2.1 hb, TV.last _ _ _ _ _ hb H6.out.2.2.2.2.2.2.1, TV.last _ _ _ _ _ hb H6.out.2.2.2.2.2.2.2.1, Below.trans H6.out.2.2.2.2.2.2.2.2.1 (hb.mono H6.out.2.2.2.2.2.2.2.2.1.size), TabW.lasts _ _ hb H6.out.2.2.2.2.2.2.2.2.2⟩)
   clear H6 hb
   go_wp2_with fail
   go_loopw [8] (fun i wr => ∃ (j : Nat), i = .int .i64 j ∧ Aside0 (j ≤ x.f3.length ∧ Below WB.heap.size WB wr)) (fun i _ => x.f3.length - (intOf i).toNat)
   case atStart => exact ⟨0, rfl, ⟨Nat.zero_le _, Below.refl _ _⟩⟩
   case round =>
    obtain ⟨j, rfl, HR⟩ := hrel
    rename World => VV
    have lc := (Box.cell (blk_below H9.out.2.2.2.2.1 HR.out.2) 4 (.slice B x.f3.length d) rfl).1
    have hx9 : x.f3.length ≤ 1000 := by have := HX.out.1; cases this; assumption
    by_cases h0 : 0 < m
    ·have bm : decide (0 < m) = true := decide_eq_true h0
     have ok0 : okE x = true := (manyV_pos x).1 (by rw [← M0.out]; exact h0)
     by_cases hj : j < x.f3.length
     ·have bj : decide ((j : Int) < (x.f3.length : Int)) = true := decide_eq_true (by omega)
      obtain ⟨ad, A4, c4, e0, k0, k1, k2, k3, k4, hl, hC⟩ := at_T32 ((TV.last _ _ _ _ _ HR.out.2 H9.out.2.2.2.2.2.2.1).reads.2) (j : Int) (by omega) (by omega)
      obtain ⟨z, hz⟩ : ∃ z, z = rd_T32 x.f3 (j : Int) := ⟨_, rfl⟩
      have hzm : z ∈ x.f3 := by
       rw [hz]
       simp [rd_T32, hj]
      rw [← hz] at k0 k1 k2 k3 k4 hl hC
      have okz : okE z = true := kid_okE ok0 hzm
      clear hz hzm
      subst e0
      simp only [Int.toNat_natCast] at k0 k1 k2 k3 k4
      go_wp2_with fail
      refine (impl_ExprOk.calls z.f0 z.f1 z.f2.f0 z.f2.f1 A4 c4 z.f3 _ VV hC hl (implOk z)).mono ?_
      rw [okz]
      rintro e V9 ⟨rfl, hb9⟩
      have HE := Aside0.mk (HR.out.2.trans (hb9.mono HR.out.2.size))
      have HJ := Aside0.mk hj
      clear hb9 hC k0 k1 k2 k3 k4 lc
      go_wp2
      go_roundw
      case rel => exact ⟨j + 1, by go_num, ⟨HJ.out, HE.out⟩⟩
      case measure => have := HJ.out; simp [intOf]; omega
     ·have bj : decide ((j : Int) < (x.f3.length : Int)) = false := decide_eq_false (by omega)
      have lb := blk_below H9.out.2.2.2.2.1 HR.out.2
      have tb := TV.last _ _ _ _ _ HR.out.2 H9.out.2.2.2.2.2.2.1
      have hB9 : Below w.heap.size w VV := Below.trans H9.out.2.2.2.2.2.2.2.2.1 (HR.out.2.mono (Below.size H9.out.2.2.2.2.2.2.2.2.1))
      have HB9 := Aside0.mk hB9
      clear hB9
      go_wp2_with ((with_reducible refine gate_dst (N := 88) rfl ?_); refine getE_ rfl rfl rfl rfl lb ?_)
      refine (specOk_any x HX.out.1.short B d VV tb).mono ?_
      rw [ok0]
      rintro e V9 ⟨rfl, hb9⟩
      have HE := Aside0.mk (HB9.out.trans (hb9.mono HB9.out.size))
      clear hb9 lb tb
      go_wp2
      go_ret
      exact ⟨rfl, HE.out⟩
    ·have bm : decide (0 < m) = false := decide_eq_false h0
     have ok0 : okE x = false := by
      cases h : okE x with
      | false => rfl
      | true => exact absurd (by rw [M0.out]; exact (manyV_pos x).2 h) h0
     by_cases hj : j < x.f3.length
     ·have bj : decide ((j : Int) < (x.f3.length : Int)) = true := decide_eq_true (by omega)
      have lb := blk_below H9.out.2.2.2.2.1 HR.out.2
      have tb := TV.last _ _ _ _ _ HR.out.2 H9.out.2.2.2.2.2.2.1
      have hB9 : Below w.heap.size w VV := Below.trans H9.out.2.2.2.2.2.2.2.2.1 (HR.out.2.mono (Below.size H9.out.2.2.2.2.2.2.2.2.1))
      have HB9 := Aside0.mk hB9
      clear hB9
      go_wp2_with ((with_reducible refine gate_dst (N := 88) rfl ?_); refine getE_ rfl rfl rfl rfl lb ?_)
      refine (specOk_any x HX.out.1.short B d VV tb).mono ?_
      rw [ok0]
      rintro e V9 ⟨rfl, hb9⟩
      have HE := Aside0.mk (HB9.out.trans (hb9.mono HB9.out.size))
      clear hb9 lb tb
      go_wp2
      go_ret
      exact ⟨rfl, HE.out⟩
     ·have bj : decide ((j : Int) < (x.f3.length : Int)) = false := decide_eq_false (by omega)
      have lb := blk_below H9.out.2.2.2.2.1 HR.out.2
      have tb := TV.last _ _ _ _ _ HR.out.2 H9.out.2.2.2.2.2.2.1
      have hB9 : Below w.heap.size w VV := Below.trans H9.out.2.2.2.2.2.2.2.2.1 (HR.out.2.mono (Below.size H9.out.2.2.2.2.2.2.2.2.1))
      have HB9 := Aside0.mk hB9
      clear hB9
      go_wp2_with ((with_reducible refine gate_dst (N := 88) rfl ?_); refine getE_ rfl rfl rfl rfl lb ?_)
      refine (specOk_any x HX.out.1.short B d VV tb).mono ?_
      rw [ok0]
      rintro e V9 ⟨rfl, hb9⟩
      have HE := Aside0.mk (HB9.out.trans (hb9.mono HB9.out.size))
      clear hb9 lb tb
      go_wp2
      go_ret
      exact ⟨rfl, HE.out⟩
  ·skip
   refine weaveB_ (fun W => Below W4.heap.size W4 W) (Lasts.below W4) (Below.refl _ _) [(45, 0), (46, 1), (47, 2), (48, 3), (49, 4), (50, 5), (51, 6), (52, 7), (53, 8), (54, 9), (55, 10), (56, 11), (57, 12), (58, 13), (59, 14), (60, 15), (61, 16), (62, 17), (63, 18), (64, 19), (65, 20), (66, 21), (67, 22)] [fun v _ => v = .agg (eA (n1 x) B6 d6), fun v _ => v = .bool true, fun v _ => v = .bool true, fun v _ => v = .agg (eA (n1 x) B6 d6), fun v _ => v = .int .i64 (m + 1), fun v _ => v = .int .i64 m, fun v _ => v = .int .i64 (m + 1), fun v _ => v = .bool false, fun v _ => v = .bool false, fun v _ => v = .bool false, fun v _ => v = .agg (eA (n2 3 x y) B7 d7), fun v _ => v = .bool true, fun v _ => v = .bool true, fun v _ => v = .agg (eA (n2 3 x y) B7 d7), fun v _ => v = .int .i64 (m + p + 1), fun v _ => v = .int .i64 m, fun v _ => v = .agg (eA y B' d'), fun v _ => v = .int .i64 p, fun v _ => v = .int .i64 (m + p), fun v _ => v = .int .i64 (m + p + 1), fun v _ => v = .bool false, fun v _ => v = .bool false, fun v _ => v = .bool false] rfl (by kernel_rfl) ⟨fun _ => Lasts.const _, fun _ => Lasts.const _, fun _ => Lasts.const _, fun _ => Lasts.const _, fun _ => Lasts.const _, fun _ => Lasts.const _, fun _ => Lasts.const _, fun _ => Lasts.const _, fun _ => Lasts.const _, fun _ => Lasts.const _, fun _ => Lasts.const _, fun _ => Lasts.const _, fun _ => Lasts.const _, fun _ => Lasts.const _, fun _ => Lasts.const _, fun _ => Lasts.const _, fun _ => Lasts.const _, fun _ => Lasts.const _, fun _ => Lasts.const _, fun _ => Lasts.const _, fun _ => Lasts.const _, fun _ => Lasts.const _, fun _ => Lasts.const _, trivial⟩ ?_ ?_
   ·refine ⟨?_, ?_, ?_, ?_, ?_, ?_, ?_, ?_, ?_, ?_, ?_, ?_, ?_, ?_, ?_, ?_, ?_, ?_, ?_, ?_, ?_, ?_, ?_, trivial⟩
    ·intro vs W hp hv b hs
     exact stepGet rfl rfl ((hs.old 6 rfl).trans rfl) (blk_below H6.out.2.2.2.1 hp) Try.underlying32 rfl (by kernel_rfl) ⟨Below.refl _ _, rfl⟩
    ·intro vs W hp hv b hs
     have h0 : vs 0 = .agg (eA (n1 x) B6 d6) := hv 0 (by decide)
     have t45 := (hs.tm 45 0 rfl).trans (congrArg some h0)
     refine stepCall rfl Try.func18 (by kernel_rfl) rfl #[vs 0] rfl (by simp [Act.eval, hs.tm 45 0 rfl]) (by rw [h0]; exact implOk_any (n1 x) B6 d6 W (TV.last _ _ _ _ _ hp H6.out.2.2.1)) ?_
     rintro e W' ⟨rfl, hb'⟩
     exact ⟨_, rfl, hb', congrArg Value.bool Q1.out.symm⟩
    ·intro vs W hp hv b hs
     have h1 : vs 1 = .bool true := hv 1 (by decide)
     have t46 := (hs.tm 46 1 rfl).trans (congrArg some h1)
     exact stepVal rfl (by go_simp) ⟨Below.refl _ _, rfl⟩
    ·intro vs W hp hv b hs
     have h2 : vs 2 = .bool true := hv 2 (by decide)
     exact stepGet (wanted_on rfl rfl ((hs.tm 47 2 rfl).trans (congrArg some h2))) rfl ((hs.old 6 rfl).trans rfl) (blk_below H6.out.2.2.2.1 hp) Try.underlying32 rfl (by kernel_rfl) ⟨Below.refl _ _, rfl⟩
    ·intro vs W hp hv b hs
     have h2 : vs 2 = .bool true := hv 2 (by decide)
     have h3 : vs 3 = .agg (eA (n1 x) B6 d6) := hv 3 (by decide)
     have t48 := (hs.tm 48 3 rfl).trans (congrArg some h3)
     refine stepCall (wanted_on rfl rfl ((hs.tm 47 2 rfl).trans (congrArg some h2))) Try.func29 (by kernel_rfl) rfl #[vs 3] rfl (by simp [Act.eval, hs.tm 48 3 rfl]) (by rw [h3]; exact manyI_any (n1 x) B6 d6 W (TabW.lasts _ _ hp H6.out.2.2.2.2.2.2.2.2.2) (TV.last _ _ _ _ _ hp H6.out.2.2.1)) ?_
     rintro e W' ⟨rfl, hb'⟩
     exact ⟨_, rfl, hb', congrArg (Value.int .i64) (by rw [manyV_n1 Q1.out.symm, ← M0.out])⟩
    ·intro vs W hp hv b hs
     have h2 : vs 2 = .bool true := hv 2 (by decide)
     have t5 : b.tmps[(5 : Nat)]? = some (.int .i64 m) := (hs.oldtm 5 rfl).trans rfl
     exact stepVal (wanted_on rfl rfl ((hs.tm 47 2 rfl).trans (congrArg some h2))) (by go_simp) ⟨Below.refl _ _, rfl⟩
    ·intro vs W hp hv b hs
     have h2 : vs 2 = .bool true := hv 2 (by decide)
     have h5 : vs 5 = .int .i64 m := hv 5 (by decide)
     have t50 := (hs.tm 50 5 rfl).trans (congrArg some h5)
     exact stepVal (wanted_on rfl rfl ((hs.tm 47 2 rfl).trans (congrArg some h2))) (by go_simp) ⟨Below.refl _ _, rfl⟩
    ·intro vs W hp hv b hs
     have h2 : vs 2 = .bool true := hv 2 (by decide)
     have h4 : vs 4 = .int .i64 (m + 1) := hv 4 (by decide)
     have t49 := (hs.tm 49 4 rfl).trans (congrArg some h4)
     have h6 : vs 6 = .int .i64 (m + 1) := hv 6 (by decide)
     have t51 := (hs.tm 51 6 rfl).trans (congrArg some h6)
     exact stepVal (wanted_on rfl rfl ((hs.tm 47 2 rfl).trans (congrArg some h2))) (by go_simp) ⟨Below.refl _ _, rfl⟩
    ·intro vs W hp hv b hs
     have h2 : vs 2 = .bool true := hv 2 (by decide)
     have t47 := (hs.tm 47 2 rfl).trans (congrArg some h2)
     have h7 : vs 7 = .bool false := hv 7 (by decide)
     have t52 := (hs.tm 52 7 rfl).trans (congrArg some h7)
     exact stepVal rfl (by go_simp) ⟨Below.refl _ _, rfl⟩
    ·intro vs W hp hv b hs
     have h8 : vs 8 = .bool false := hv 8 (by decide)
     have t53 := (hs.tm 53 8 rfl).trans (congrArg some h8)
     exact stepVal rfl (by go_simp) ⟨Below.refl _ _, rfl⟩
    ·intro vs W hp hv b hs
     have h9 : vs 9 = .bool false := hv 9 (by decide)
     exact stepGet (wanted_on rfl rfl ((hs.tm 54 9 rfl).trans (congrArg some h9))) rfl ((hs.old 7 rfl).trans rfl) (blk_below H6.out.2.1 hp) Try.underlying32 rfl (by kernel_rfl) ⟨Below.refl _ _, rfl⟩
    ·intro vs W hp hv b hs
     have h9 : vs 9 = .bool false := hv 9 (by decide)
     have h10 : vs 10 = .agg (eA (n2 3 x y) B7 d7) := hv 10 (by decide)
     have t55 := (hs.tm 55 10 rfl).trans (congrArg some h10)
     refine stepCall (wanted_on rfl rfl ((hs.tm 54 9 rfl).trans (congrArg some h9))) Try.func18 (by kernel_rfl) rfl #[vs 10] rfl (by simp [Act.eval, hs.tm 55 10 rfl]) (by rw [h10]; exact implOk_any (n2 3 x y) B7 d7 W (TV.last _ _ _ _ _ hp H6.out.1)) ?_
     rintro e W' ⟨rfl, hb'⟩
     exact ⟨_, rfl, hb', congrArg Value.bool Q2.out.symm⟩
    ·intro vs W hp hv b hs
     have h9 : vs 9 = .bool false := hv 9 (by decide)
     have h11 : vs 11 = .bool true := hv 11 (by decide)
     have t56 := (hs.tm 56 11 rfl).trans (congrArg some h11)
     exact stepVal (wanted_on rfl rfl ((hs.tm 54 9 rfl).trans (congrArg some h9))) (by go_simp) ⟨Below.refl _ _, rfl⟩
    ·intro vs W hp hv b hs
     have h12 : vs 12 = .bool true := hv 12 (by decide)
     exact stepGet (wanted_on rfl rfl ((hs.tm 57 12 rfl).trans (congrArg some h12))) rfl ((hs.old 7 rfl).trans rfl) (blk_below H6.out.2.1 hp) Try.underlying32 rfl (by kernel_rfl) ⟨Below.refl _ _, rfl⟩
    ·intro vs W hp hv b hs
     have h12 : vs 12 = .bool true := hv 12 (by decide)
     have h13 : vs 13 = .agg (eA (n2 3 x y) B7 d7) := hv 13 (by decide)
     have t58 := (hs.tm 58 13 rfl).trans (congrArg some h13)
     refine stepCall (wanted_on rfl rfl ((hs.tm 57 12 rfl).trans (congrArg some h12))) Try.func29 (by kernel_rfl) rfl #[vs 13] rfl (by simp [Act.eval, hs.tm 58 13 rfl]) (by rw [h13]; exact manyI_any (n2 3 x y) B7 d7 W (TabW.lasts _ _ hp H6.out.2.2.2.2.2.2.2.2.2) (TV.last _ _ _ _ _ hp H6.out.1)) ?_
     rintro e W' ⟨rfl, hb'⟩
     exact ⟨_, rfl, hb', congrArg (Value.int .i64) (by rw [manyV_n2 (by decide) Q2.out.symm, ← M0.out, ← P0.out])⟩
    ·intro vs W hp hv b hs
     have h12 : vs 12 = .bool true := hv 12 (by decide)
     have t5 : b.tmps[(5 : Nat)]? = some (.int .i64 m) := (hs.oldtm 5 rfl).trans rfl
     exact stepVal (wanted_on rfl rfl ((hs.tm 57 12 rfl).trans (congrArg some h12))) (by go_simp) ⟨Below.refl _ _, rfl⟩
    ·intro vs W hp hv b hs
     have h12 : vs 12 = .bool true := hv 12 (by decide)
     exact stepGet (wanted_on rfl rfl ((hs.tm 57 12 rfl).trans (congrArg some h12))) rfl ((hs.old 4 rfl).trans rfl) (blk_below H6.out.2.2.2.2.2.1 hp) Try.underlying32 rfl (by kernel_rfl) ⟨Below.refl _ _, rfl⟩
    ·intro vs W hp hv b hs
     have h12 : vs 12 = .bool true := hv 12 (by decide)
     have h16 : vs 16 = .agg (eA y B' d') := hv 16 (by decide)
     have t61 := (hs.tm 61 16 rfl).trans (congrArg some h16)
     refine stepCall (wanted_on rfl rfl ((hs.tm 57 12 rfl).trans (congrArg some h12))) Try.func29 (by kernel_rfl) rfl #[vs 16] rfl (by simp [Act.eval, hs.tm 61 16 rfl]) (by rw [h16]; exact manyI_any y B' d' W (TabW.lasts _ _ hp H6.out.2.2.2.2.2.2.2.2.2) (TV.last _ _ _ _ _ hp H6.out.2.2.2.2.2.2.2.1)) ?_
     rintro e W' ⟨rfl, hb'⟩
     exact ⟨_, rfl, hb', congrArg (Value.int .i64) P0.out.symm⟩
    ·intro vs W hp hv b hs
     have h12 : vs 12 = .bool true := hv 12 (by decide)
     have h15 : vs 15 = .int .i64 m := hv 15 (by decide)
     have t60 := (hs.tm 60 15 rfl).trans (congrArg some h15)
     have h17 : vs 17 = .int .i64 p := hv 17 (by decide)
     have t62 := (hs.tm 62 17 rfl).trans (congrArg some h17)
     exact stepVal (wanted_on rfl rfl ((hs.tm 57 12 rfl).trans (congrArg some h12))) (by go_simp) ⟨Below.refl _ _, rfl⟩
    ·intro vs W hp hv b hs
     have h12 : vs 12 = .bool true := hv 12 (by decide)
     have h18 : vs 18 = .int .i64 (m + p) := hv 18 (by decide)
     have t63 := (hs.tm 63 18 rfl).trans (congrArg some h18)
     exact stepVal (wanted_on rfl rfl ((hs.tm 57 12 rfl).trans (congrArg some h12))) (by go_simp) ⟨Below.refl _ _, rfl⟩
    ·intro vs W hp hv b hs
     have h12 : vs 12 = .bool true := hv 12 (by decide)
     have h14 : vs 14 = .int .i64 (m + p + 1) := hv 14 (by decide)
     have t59 := (hs.tm 59 14 rfl).trans (congrArg some h14)
     have h19 : vs 19 = .int .i64 (m + p + 1) := hv 19 (by decide)
     have t64 := (hs.tm 64 19 rfl).trans (congrArg some h19)
     exact stepVal (wanted_on rfl rfl ((hs.tm 57 12 rfl).trans (congrArg some h12))) (by go_simp) ⟨Below.refl _ _, rfl⟩
    ·intro vs W hp hv b hs
     have h9 : vs 9 = .bool false := hv 9 (by decide)
     have h12 : vs 12 = .bool true := hv 12 (by decide)
     have t57 := (hs.tm 57 12 rfl).trans (congrArg some h12)
     have h20 : vs 20 = .bool false := hv 20 (by decide)
     have t65 := (hs.tm 65 20 rfl).trans (congrArg some h20)
     exact stepVal (wanted_on rfl rfl ((hs.tm 54 9 rfl).trans (congrArg some h9))) (by go_simp) ⟨Below.refl _ _, rfl⟩
    ·intro vs W hp hv b hs
     have h9 : vs 9 = .bool false := hv 9 (by decide)
     have t54 := (hs.tm 54 9 rfl).trans (congrArg some h9)
     have h21 : vs 21 = .bool false := hv 21 (by decide)
     have t66 := (hs.tm 66 21 rfl).trans (congrArg some h21)
     exact stepVal rfl (by go_simp) ⟨Below.refl _ _, rfl⟩
   intro vs WB hb hv
   have hres : vs 22 = .bool false := hv 22 (by decide)
   simp only [List.map_cons, List.map_nil, putL, Act.put, List.setIfInBounds_toArray, List.set_cons_zero, List.set_cons_succ, hres]
   clear hv hres
   have H10 := Aside0.mk (show TV WB (n2 3 x y) B7 d7 ∧ Box WB g7 32 (eA (n2 3 x y) B7 d7) ∧ TV WB (n1 x) B6 d6 ∧ Box WB g6 32 (eA (n1 x) B6 d6) ∧ Box WB g3 32 (eA x B d) ∧ Box WB g4 32 (eA y B' d') ∧ TV WB x B d ∧ TV WB y B' d' ∧ Below w.heap.size w WB ∧ TabW WB  from ⟨TV.last _ _ _ _ _ hb H6.out.1, blk_below H6.out.2.1 hb, TV.last _ _ _ _ _ hb H6.out.2.2.1, blk_below H6.out.2.2.2.1 hb, blk_below H6.out.2.2.2.2.1 hb, blk_below H6.out.2.2.2.2.2.1 hb, TV.last _ _ _ _ _ hb H6.out.2.2.2.2.2.2.1, TV.last _ _ _ _ _ hb H6.out.2.2.2.2.2.2.2.1, Below.trans H6.out.2.2.2.2.2.2.2.2.1 (hb.mono H6.out.2.2.2.2.2.2.2.2.1.size), TabW.lasts _ _ hb H6.out.2.2.2.2.2.2.2.2.2⟩)
   clear H6 hb
   go_wp2_with fail
   go_loopw [8] (fun i wr => ∃ (j : Nat), i = .int .i64 j ∧ Aside0 (j ≤ x.f3.length ∧ Below WB.heap.size WB wr)) (fun i _ => x.f3.length - (intOf i).toNat)
   case atStart => exact ⟨0, rfl, ⟨Nat.zero_le _, Below.refl _ _⟩⟩
   case round =>
    obtain ⟨j, rfl, HR⟩ := hrel
    rename World => VV
    have lc := (Box.cell (blk_below H10.out.2.2.2.2.1 HR.out.2) 4 (.slice B x.f3.length d) rfl).1
    have hx9 : x.f3.length ≤ 1000 := by have := HX.out.1; cases this; assumption
    by_cases h0 : 0 < m
    ·have bm : decide (0 < m) = true := decide_eq_true h0
     have ok0 : okE x = true := (manyV_pos x).1 (by rw [← M0.out]; exact h0)
     by_cases hj : j < x.f3.length
     ·have bj : decide ((j : Int) < (x.f3.length : Int)) = true := decide_eq_true (by omega)
      obtain ⟨ad, A4, c4, e0, k0, k1, k2, k3, k4, hl, hC⟩ := at_T32 ((TV.last _ _ _ _ _ HR.out.2 H10.out.2.2.2.2.2.2.1).reads.2) (j : Int) (by omega) (by omega)
      obtain ⟨z, hz⟩ : ∃ z, z = rd_T32 x.f3 (j : Int) := ⟨_, rfl⟩
      have hzm : z ∈ x.f3 := by
       rw [hz]
       simp [rd_T32, hj]
      rw [← hz] at k0 k1 k2 k3 k4 hl hC
      have okz : okE z = true := kid_okE ok0 hzm
      clear hz hzm
      subst e0
      simp only [Int.toNat_natCast] at k0 k1 k2 k3 k4
      go_wp2_with fail
      refine (impl_ExprOk.calls z.f0 z.f1 z.f2.f0 z.f2.f1 A4 c4 z.f3 _ VV hC hl (implOk z)).mono ?_
      rw [okz]
      rintro e V9 ⟨rfl, hb9⟩
      have HE := Aside0.mk (HR.out.2.trans (hb9.mono HR.out.2.size))
      have HJ := Aside0.mk hj
      clear hb9 hC k0 k1 k2 k3 k4 lc
      go_wp2
      go_roundw
      case rel => exact ⟨j + 1, by go_num, ⟨HJ.out, HE.out⟩⟩
      case measure => have := HJ.out; simp [intOf]; omega
     ·have bj : decide ((j : Int) < (x.f3.length : Int)) = false := decide_eq_false (by omega)
      have lb := blk_below H10.out.2.2.2.2.1 HR.out.2
      have tb := TV.last _ _ _ _ _ HR.out.2 H10.out.2.2.2.2.2.2.1
      have hB9 : Below w.heap.size w VV := Below.trans H10.out.2.2.2.2.2.2.2.2.1 (HR.out.2.mono (Below.size H10.out.2.2.2.2.2.2.2.2.1))
      have HB9 := Aside0.mk hB9
      clear hB9
      go_wp2_with ((with_reducible refine gate_dst (N := 88) rfl ?_); refine getE_ rfl rfl rfl rfl lb ?_)
      refine (specOk_any x HX.out.1.short B d VV tb).mono ?_
      rw [ok0]
      rintro e V9 ⟨rfl, hb9⟩
      have HE := Aside0.mk (HB9.out.trans (hb9.mono HB9.out.size))
      clear hb9 lb tb
      go_wp2
      go_ret
      exact ⟨rfl, HE.out⟩
    ·have bm : decide (0 < m) = false := decide_eq_false h0
     have ok0 : okE x = false := by
      cases h : okE x with
      | false => rfl
      | true => exact absurd (by rw [M0.out]; exact (manyV_pos x).2 h) h0
     by_cases hj : j < x.f3.length
     ·have bj : decide ((j : Int) < (x.f3.length : Int)) = true := decide_eq_true (by omega)
      have lb := blk_below H10.out.2.2.2.2.1 HR.out.2
      have tb := TV.last _ _ _ _ _ HR.out.2 H10.out.2.2.2.2.2.2.1
      have hB9 : Below w.heap.size w VV := Below.trans H10.out.2.2.2.2.2.2.2.2.1 (HR.out.2.mono (Below.size H10.out.2.2.2.2.2.2.2.2.1))
      have HB9 := Aside0.mk hB9
      clear hB9
      go_wp2_with ((with_reducible refine gate_dst (N := 88) rfl ?_); refine getE_ rfl rfl rfl rfl lb ?_)
      refine (specOk_any x HX.out.1.short B d VV tb).mono ?_
      rw [ok0]
      rintro e V9 ⟨rfl, hb9⟩
      have HE := Aside0.mk (HB9.out.trans (hb9.mono HB9.out.size))
      clear hb9 lb tb
      go_wp2
      go_ret
      exact ⟨rfl, HE.out⟩
     ·have bj : decide ((j : Int) < (x.f3.length : Int)) = false := decide_eq_false (by omega)
      have lb := blk_below H10.out.2.2.2.2.1 HR.out.2
      have tb := TV.last _ _ _ _ _ HR.out.2 H10.out.2.2.2.2.2.2.1
      have hB9 : Below w.heap.size w VV := Below.trans H10.out.2.2.2.2.2.2.2.2.1 (HR.out.2.mono (Below.size H10.out.2.2.2.2.2.2.2.2.1))
      have HB9 := Aside0.mk hB9
      clear hB9
      go_wp2_with ((with_reducible refine gate_dst (N := 88) rfl ?_); refine getE_ rfl rfl rfl rfl lb ?_)
      refine (specOk_any x HX.out.1.short B d VV tb).mono ?_
      rw [ok0]
      rintro e V9 ⟨rfl, hb9⟩
      have HE := Aside0.mk (HB9.out.trans (hb9.mono HB9.out.size))
      clear hb9 lb tb
      go_wp2
      go_ret
      exact ⟨rfl, HE.out⟩
end Go.Proofs.Ytiofkhfmdophpaa.B
