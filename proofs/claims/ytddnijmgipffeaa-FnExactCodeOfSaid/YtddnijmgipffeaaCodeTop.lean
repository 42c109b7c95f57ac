import Derived.Test.YtddnijmgipffeaaStOkSpec
import Derived.Test.YtddnijmgipffeaaCodeAll
import Derived.Test.YtddnijmgipffeaaPkD
import Derived.Test.YtddnijmgipffeaaCountAll
/- Plain law: the specification's code of statements ends, and is the code that the coder makes. -/
namespace Go.Proofs.Ytddnijmgipffeaa.B
open Go.RowKit Go.Proofs.YtddnijmgipffeaaW.PrintWords Go.Proofs.YtddnijmgipffeaaW.PrintLast Go.Proofs.YtddnijmgipffeaaW.PrintMore
set_option linter.unusedVariables false

theorem flat_len (f : S46 → List IIns) (g : S46 → Nat) (l : List S46) (h : ∀ x ∈ l, (f x).length = g x) : (l.flatMap f).length = (l.map g).sum := by
 induction l with
 | nil => rfl
 | cons a l ih => rw [List.flatMap_cons, List.length_append, ih (fun x hx => h x (List.mem_cons_of_mem _ hx)), h a List.mem_cons_self, List.map_cons, List.sum_cons]
theorem codeE_many (d : Nat) : ∀ e : S46, formS d e = true → (codeE e).length = manyS d e := by
 induction d with
 | zero => intro e h; simp [formS] at h
 | succ d ih =>
  intro e h
  rw [formS, Bool.and_eq_true, List.all_eq_true] at h
  rw [codeE_eq, List.length_append, flat_len codeE (manyS d) e.f3 (fun x hx => ih x (h.2 x hx)), manyS, List.length_singleton]
  omega
theorem kid_le (d : Nat) (l : List S46) (j : Nat) (h : j < l.length) : manyS d l[j] ≤ (l.map (manyS d)).sum := mem_sum _ _ (List.mem_map_of_mem (List.getElem_mem h))
theorem exp_is (d : Nat) : ∀ e : S46, formS d e = true → manyS d e ≤ 1000 → Ends (fun k => spec_l5Expr.f k e.f0 e.f1 e.f2.f0 e.f2.f1 e.f3) (codeE e) := by
 induction d with
 | zero => intro e h; simp [formS] at h
 | succ d ih =>
  intro e h hm
  have hlen := codeE_many (d + 1) e h
  rw [formS, Bool.and_eq_true, List.all_eq_true] at h
  obtain ⟨hh, hk⟩ := h
  unfold headOk at hh
  simp only [Bool.and_eq_true, beq_iff_eq] at hh
  obtain ⟨⟨hkd, hn⟩, _⟩ := hh
  rw [manyS] at hm hlen
  rw [codeE_eq]
  obtain ⟨e0, e1, ⟨a, b⟩, l⟩ := e
  dsimp only at *
  by_cases h1 : e0 = 1
  ·rw [h1, kidsN, if_pos (.inl rfl)] at hn
   obtain rfl : l = [] := List.length_eq_zero_iff.1 (by omega)
   refine Ends.succ (fun k => by rw [spec_l5Expr.f, if_pos h1]) (Ends.const fun k => ?_)
   rw [insOf, if_pos h1]; rfl
  by_cases h2 : e0 = 2
  ·rw [h2, kidsN, if_pos (.inr rfl)] at hn
   obtain rfl : l = [] := List.length_eq_zero_iff.1 (by omega)
   refine Ends.succ (fun k => by rw [spec_l5Expr.f, if_neg h1, if_pos h2]) (Ends.const fun k => ?_)
   rw [insOf, if_neg h1, if_pos h2]; rfl
  have hkd' : 1 ≤ e0 ∧ e0 ≤ 10 := by simpa [kindOk] using hkd
  by_cases h3 : e0 = 10
  ·rw [h3, kidsN, if_neg (by omega), if_neg (by omega)] at hn
   obtain ⟨x, rfl⟩ := List.length_eq_one_iff.1 (show l.length = 1 by omega)
   have hx := ih x (hk x (by simp)) (by simp at hm; omega)
   have hxl := codeE_many d x (hk x (by simp))
   refine Ends.succ (fun k => by rw [spec_l5Expr.f, if_neg h1, if_neg h2, if_pos h3, if_pos (by simp), show rd_T46 [x] 0 = x from rfl]) ?_
   refine hx.bind (Ends.const fun k => ?_)
   rw [Option.bind_some, if_pos (by simp at hm ⊢; omega), insOf, if_neg h1, if_neg h2, if_pos h3]
   simp
  ·rw [kidsN, if_neg (by omega), if_pos (by omega)] at hn
   obtain ⟨x, y, rfl⟩ : ∃ x y, l = [x, y] := by
    match l, (show l.length = 2 by omega) with
    | [x, y], _ => exact ⟨x, y, rfl⟩
   simp at hm
   have hx := ih x (hk x (by simp)) (by omega)
   have hxl := codeE_many d x (hk x (by simp))
   have hy := ih y (hk y (by simp)) (by omega)
   have hyl := codeE_many d y (hk y (by simp))
   refine Ends.succ (fun k => by rw [spec_l5Expr.f, if_neg h1, if_neg h2, if_neg h3, if_pos (by simp), show rd_T46 [x, y] 0 = x from rfl]) ?_
   refine hx.bind ?_
   refine Ends.of ?_ (fun k => by rw [if_pos (by simp), show rd_T46 [x, y] 1 = y from rfl])
   refine hy.bind (Ends.const fun k => ?_)
   rw [if_pos (by omega), Option.bind_some, Option.bind_some, if_pos (by simp; omega), insOf, if_neg h1, if_neg h2, if_neg h3]
   simp
theorem head_ex {s : ISt} (h : headSt s = true) : plainL s = true ∧ formS 6 s.f2 = true ∧ manyS 6 s.f2 ≤ 14 := by
 rw [headSt, okL_eq, Bool.and_eq_true, Bool.and_eq_true, decide_eq_true_eq] at h
 exact h
theorem plain_kind {s : ISt} (h : plainL s = true) : s.f0 = 1 ∨ s.f0 = 2 ∨ s.f0 = 3 := by
 unfold plainL at h
 by_cases h1 : s.f0 = 1
 ·exact .inl h1
 by_cases h2 : s.f0 = 2
 ·exact .inr (.inl h2)
 by_cases h3 : s.f0 = 3
 ·exact .inr (.inr h3)
 rw [if_neg h1, if_neg h2, if_neg h3] at h; cases h
theorem codeS_lenO (N : ISt → Nat) (l : List ISt) (h : ∀ s ∈ l, ∀ n, (codeOne s n).length ≤ 16 * N s) : ∀ n, (codeS l n).length ≤ 16 * (l.map N).sum := by
 induction l with
 | nil => intro n; simp [codeS]
 | cons a l ih =>
  intro n
  rw [codeS, List.length_append, List.map_cons, List.sum_cons]
  have h1 := h a List.mem_cons_self n
  have h2 := ih (fun s hs => h s (List.mem_cons_of_mem _ hs)) (n + (codeOne a n).length)
  omega
theorem codeOne_len (s : ISt) (n M T1 T2 : Nat) (hM : (codeE s.f2).length ≤ 14) (h3 : ∀ m, (codeS s.f3 m).length ≤ 16 * T1) (h4 : ∀ m, (codeS s.f4 m).length ≤ 16 * T2) : (codeOne s n).length ≤ 16 * (1 + T1 + T2) := by
 rw [codeOne_eq]
 have a3 := h3 (n + (codeE s.f2).length + 1)
 have a4 := h4 (n + (codeE s.f2).length + 1 + (codeS s.f3 (n + (codeE s.f2).length + 1)).length + 1)
 by_cases k1 : s.f0 = 1
 ·rw [if_pos k1]; simp only [List.length_append, List.length_singleton]; omega
 by_cases k2 : s.f0 = 2
 ·rw [if_neg k1, if_pos k2]; simp only [List.length_append, List.length_singleton]; omega
 by_cases k3 : s.f0 = 3
 ·rw [if_neg k1, if_neg k2, if_pos k3]; simp only [List.length_append, List.length_singleton]; omega
 ·rw [if_neg k1, if_neg k2, if_neg k3]; omega
theorem sum_one (d : Nat) (l : List ISt) : (l.map fun s => 1 + manyT d s.f3 + manyT d s.f4).sum = l.length + (l.map fun s => manyT d s.f3 + manyT d s.f4).sum := by
 induction l with
 | nil => rfl
 | cons a l ih => simp only [List.map_cons, List.sum_cons, List.length_cons, ih]; omega
theorem codeS_many (d : Nat) : ∀ l : List ISt, formT d l = true → ∀ n, (codeS l n).length ≤ 16 * manyT d l := by
 induction d with
 | zero =>
  intro l h n
  rw [formT, List.isEmpty_iff] at h
  subst h
  simp [codeS]
 | succ d ih =>
  intro l h n
  rw [formT, List.all_eq_true] at h
  rw [manyT, ← sum_one]
  refine codeS_lenO (fun s => 1 + manyT d s.f3 + manyT d s.f4) l (fun s hs m => ?_) n
  have hs' := h s hs
  rw [Bool.and_eq_true, Bool.and_eq_true] at hs'
  have he := head_ex hs'.1
  exact codeOne_len s m 0 _ _ (by rw [codeE_many 6 _ he.2.1]; exact he.2.2) (ih _ hs'.2.1) (ih _ hs'.2.2)
theorem one_is (s : ISt) (hk : s.f0 = 1 ∨ s.f0 = 2 ∨ s.f0 = 3) (hM : (codeE s.f2).length ≤ 14) (he : Ends (fun k => spec_l5Expr.f k s.f2.f0 s.f2.f1 s.f2.f2.f0 s.f2.f2.f1 s.f2.f3) (codeE s.f2)) (n T1 T2 : Nat) (h3 : ∀ m, (codeS s.f3 m).length ≤ 16 * T1) (h4 : ∀ m, (codeS s.f4 m).length ≤ 16 * T2)
  (hb : n ≤ 150000) (hT : T1 + T2 ≤ 16) (e3 : ∀ m : Nat, m ≤ n + 600 → Ends (fun k => spec_l5Of.f k s.f3 (m : Int)) (codeS s.f3 m)) (e4 : ∀ m : Nat, m ≤ n + 600 → Ends (fun k => spec_l5Of.f k s.f4 (m : Int)) (codeS s.f4 m)) :
  Ends (fun k => spec_l5One.f k s.f0 s.f1.f0 s.f1.f1 s.f2.f0 s.f2.f1 s.f2.f2.f0 s.f2.f2.f1 s.f2.f3 s.f3 s.f4 (n : Int)) (codeOne s n) := by
 rw [codeOne_eq]
 refine Ends.succ (fun k => by rw [spec_l5One.f]) ?_
 refine he.bind ?_
 obtain ⟨es, hes⟩ : ∃ es, es = codeE s.f2 := ⟨_, rfl⟩
 rw [← hes] at hM ⊢
 by_cases k1 : s.f0 = 1
 ·refine Ends.const fun k => ?_
  rw [if_pos k1, if_pos (by omega), if_pos k1]
 by_cases k3 : s.f0 = 3
 ·have a3 := h3 (n + es.length + 1)
  have w1 : wrap64 ((n : Int) + wrap64 ((es.length : Int) + 1)) = ((n + es.length + 1 : Nat) : Int) := by rw [wrap_in (n := (es.length : Int) + 1) (by omega) (by omega), wrap_in (by omega) (by omega)]; omega
  refine Ends.of ?_ (fun k => by rw [if_neg k1, if_pos k3, w1])
  refine (e3 (n + es.length + 1) (by omega)).bind (Ends.const fun k => ?_)
  obtain ⟨ts, hts⟩ : ∃ ts, ts = codeS s.f3 (n + es.length + 1) := ⟨_, rfl⟩
  rw [← hts] at a3 ⊢
  have w2 : wrap64 (wrap64 (((n + es.length + 1 : Nat) : Int) + (ts.length : Int)) + 1) = ((n + es.length + 1 + ts.length + 1 : Nat) : Int) := by rw [wrap_in (n := ((n + es.length + 1 : Nat) : Int) + (ts.length : Int)) (by omega) (by omega), wrap_in (by omega) (by omega)]; omega
  rw [if_pos (by omega), Option.bind_some, if_pos (by rw [List.length_append, List.length_singleton]; omega), Option.bind_some, if_pos (by simp only [List.length_append, List.length_singleton]; omega), w2, if_neg k1, if_neg (by omega), if_pos k3]
 ·have k2 : s.f0 = 2 := by omega
  have a3 := h3 (n + es.length + 1)
  have w1 : wrap64 ((n : Int) + wrap64 ((es.length : Int) + 1)) = ((n + es.length + 1 : Nat) : Int) := by rw [wrap_in (n := (es.length : Int) + 1) (by omega) (by omega), wrap_in (by omega) (by omega)]; omega
  refine Ends.of ?_ (fun k => by rw [if_neg k1, if_neg k3, w1])
  refine (e3 (n + es.length + 1) (by omega)).bind ?_
  obtain ⟨ts, hts⟩ : ∃ ts, ts = codeS s.f3 (n + es.length + 1) := ⟨_, rfl⟩
  rw [← hts] at a3 ⊢
  have a4 := h4 (n + es.length + 1 + ts.length + 1)
  have w2 : wrap64 (wrap64 (((n + es.length + 1 : Nat) : Int) + (ts.length : Int)) + 1) = ((n + es.length + 1 + ts.length + 1 : Nat) : Int) := by rw [wrap_in (n := ((n + es.length + 1 : Nat) : Int) + (ts.length : Int)) (by omega) (by omega), wrap_in (by omega) (by omega)]; omega
  refine Ends.of ?_ (fun k => by rw [w2])
  refine (e4 (n + es.length + 1 + ts.length + 1) (by omega)).bind (Ends.const fun k => ?_)
  obtain ⟨us, hus⟩ : ∃ us, us = codeS s.f4 (n + es.length + 1 + ts.length + 1) := ⟨_, rfl⟩
  rw [← hus] at a4 ⊢
  have w3 : wrap64 (((n + es.length + 1 + ts.length + 1 : Nat) : Int) + (us.length : Int)) = ((n + es.length + 1 + ts.length + 1 + us.length : Nat) : Int) := by rw [wrap_in (by omega) (by omega)]; omega
  rw [if_pos (by omega), Option.bind_some, if_pos (by rw [List.length_append, List.length_singleton]; omega), Option.bind_some, if_pos (by simp only [List.length_append, List.length_singleton]; omega), Option.bind_some, if_pos (by simp only [List.length_append, List.length_singleton]; omega), w3, if_neg k1, if_pos k2]
theorem of_loop (l : List ISt) (n : Nat) (hb : n + (codeS l n).length ≤ 200000) (hl : l.length ≤ 1048576) (h : ∀ s ∈ l, ∀ m : Nat, m + (codeOne s m).length ≤ 200000 → m ≤ n + (codeS l n).length → Ends (fun k => spec_l5One.f k s.f0 s.f1.f0 s.f1.f1 s.f2.f0 s.f2.f1 s.f2.f2.f0 s.f2.f2.f1 s.f2.f3 s.f3 s.f4 (m : Int)) (codeOne s m)) :
  ∀ (e j : Nat), j + e = l.length → Ends (fun k => spec_l5Of.l0 k l (n : Int) (codeS (l.take j) n) (j : Int)) (codeS l n) := by
 intro e
 induction e with
 | zero =>
  intro j hj
  refine Ends.succ (fun k => by rw [spec_l5Of.l0, if_neg (by omega)]) (Ends.const fun k => ?_)
  rw [List.take_of_length_le (by omega)]
 | succ e ih =>
  intro j hj
  have hjl : j < l.length := by omega
  have h1 := codeS_len l j n
  have h2 := codeS_len l (j + 1) n
  rw [codeS_take l j hjl n, List.length_append] at h2
  have hn := ih (j + 1) (by omega)
  rw [codeS_take l j hjl n] at hn
  have hone := h l[j] (List.getElem_mem hjl) (n + (codeS (l.take j) n).length) (by omega) (by omega)
  refine Ends.succ (fun k => by rw [spec_l5Of.l0, if_pos (by omega), if_pos (by omega), rdI_st l j hjl, show wrap64 ((n : Int) + ((codeS (l.take j) n).length : Int)) = ((n + (codeS (l.take j) n).length : Nat) : Int) by rw [wrap_in (by omega) (by omega)]; omega]) ?_
  refine hone.bind ?_
  refine hn.of fun k => ?_
  rw [if_pos (by omega), show wrap64 ((j : Int) + 1) = ((j + 1 : Nat) : Int) by rw [wrap_in (by omega) (by omega)]; omega]
theorem sts_is (d : Nat) : ∀ (l : List ISt) (n : Nat), formT d l = true → manyT d l ≤ 16 → n + 1000 * d ≤ 100000 → Ends (fun k => spec_l5Of.f k l (n : Int)) (codeS l n) := by
 induction d with
 | zero =>
  intro l n h _ hn
  rw [formT, List.isEmpty_iff] at h
  subst h
  refine Ends.succ (fun k => by rw [spec_l5Of.f]) ?_
  exact Ends.succ (fun k => by rw [spec_l5Of.l0, if_neg (by simp)]) (Ends.const fun k => by simp [codeS])
 | succ d ih =>
  intro l n h hN16 hn
  have hlen := codeS_many (d + 1) l h n
  refine Ends.succ (fun k => by rw [spec_l5Of.f]) ?_
  rw [formT, List.all_eq_true] at h
  have hN : manyT (d + 1) l = l.length + (l.map fun s => manyT d s.f3 + manyT d s.f4).sum := rfl
  have := of_loop l n (by omega) (by omega) (fun s hs m hm hmn => ?_) l.length 0 (by omega)
  ·simpa [codeS] using this
  ·have hs' := h s hs
   rw [Bool.and_eq_true, Bool.and_eq_true] at hs'
   have he := head_ex hs'.1
   have hone : 1 + manyT d s.f3 + manyT d s.f4 ≤ manyT (d + 1) l := by
    rw [manyT, ← sum_one]
    exact mem_sum _ _ (List.mem_map_of_mem (f := fun s => 1 + manyT d s.f3 + manyT d s.f4) hs)
   exact one_is s (plain_kind he.1) (by rw [codeE_many 6 _ he.2.1]; exact he.2.2) (exp_is 6 s.f2 he.2.1 (by omega)) m _ _ (codeS_many d _ hs'.2.1) (codeS_many d _ hs'.2.2) (by omega) (by omega) (fun m' hm' => ih s.f3 m' hs'.2.1 (by omega) (by omega)) (fun m' hm' => ih s.f4 m' hs'.2.2 (by omega) (by omega))
/-- What CodeOf says. -/
def codeR (l : List ISt) : List IIns := if (countL 4 l 0).1 = true then codeS l 0 else []
theorem codeR_len (l : List ISt) : (codeR l).length ≤ 256 := by
 unfold codeR
 by_cases h : (countL 4 l 0).1 = true
 ·rw [if_pos h]
  rw [stOk_is, Bool.and_eq_true, decide_eq_true_eq] at h
  have := codeS_many 4 l h.1 0
  omega
 ·rw [if_neg h]; simp
theorem code_fit {l : List ISt} (h : (countL 4 l 0).1 = true) : (codeS l 0).length ≤ 256 := by
 rw [stOk_is, Bool.and_eq_true, decide_eq_true_eq] at h
 have := codeS_many 4 l h.1 0
 omega
theorem specCode_is (l : List ISt) (h1 : manyT 4 l ≤ 1048576) (h2 : ∀ s ∈ l, istOk s) : Ends (fun k => spec_CodeOf.f k l) (codeR l) := by
 refine ((spec_stOk l h1 h2).bind (g := fun k t => if t = true then ((spec_l5Of.f k l 0).bind fun t => some t) else some ([] : List IIns)) ?_).of fun k => by rw [spec_CodeOf.f]
 unfold codeR
 by_cases h : (countL 4 l 0).1 = true
 ·rw [if_pos h]
  have h' := h
  rw [stOk_is, Bool.and_eq_true, decide_eq_true_eq] at h'
  refine ((sts_is 4 l 0 h'.1 h'.2 (by omega)).bind (g := fun _ t => some t) (Ends.const fun k => rfl)).of fun k => by rw [if_pos h]; rfl
 ·rw [if_neg h]
  exact Ends.const fun k => by rw [if_neg h]
end Go.Proofs.Ytddnijmgipffeaa.B
/- impl.CodeOf. -/
namespace Go.Proofs.Ytddnijmgipffeaa.B
open Go.RowKit Go.Shelf Go.Proofs.YtddnijmgipffeaaW.PrintWords Go.Proofs.YtddnijmgipffeaaW.PrintLast Go.Proofs.YtddnijmgipffeaaW.PrintMore
set_option linter.unusedVariables false

theorem R_empty (w : World) (base : Nat) : Kd.R k39 39 w base (fun _ => True) (.slice none 0 0) [] :=
 ⟨fun _ _ => trivial, OwnRow.none_ _ _ _ _ _⟩
set_option maxRecDepth 100000 in
set_option maxHeartbeats 4000000 in
theorem codeOf_any (l : StRow) (A : Option Addr) (c : Nat) (w : World) (hC : Kd.C k69 w A l.length l) (hc : l.length ≤ c) :
  Calls Try.prog 11 #[.slice A l.length c] w fun e w' => ∃ U y, e = .returned (.slice U (codeR l).length y) ∧ Kd.R k39 39 w' w.heap.size (fun _ => True) (.slice U (codeR l).length y) (codeR l) ∧ Below w.heap.size w w' := by
 have hok := impl_StmtsOk.calls A c l (countL 4 l 0).1 w hC hc rfl
 have HOK := Aside0.mk hok
 have HC := Aside0.mk (And.intro hC hc)
 obtain ⟨rs, hrs⟩ : ∃ rs, rs = codeR l := ⟨_, rfl⟩
 rw [← hrs]
 have HRS := Aside0.mk hrs
 clear hok hC hc hrs
 go_enter Try.func11, Try.ntmps11
 go_wp2_with fail
 refine HOK.out.mono ?_
 clear HOK
 rintro e w1 ⟨rfl, hb⟩
 have HB := Aside0.mk hb
 clear hb
 by_cases h : (countL 4 l 0).1 = true
 ·rw [h]
  have HH := Aside0.mk h
  clear h
  go_upto_region 4 with (fail)
  have j1 := heap_alloc_new w1 (.cells #[.slice none 0 0] 73)
  have hb1 : Below w1.heap.size w1 (w1.alloc (.cells #[.slice none 0 0] 73)) := (Below.refl _ _).alloc (Nat.le_refl _) _
  generalize w1.alloc (.cells #[.slice none 0 0] 73) = w2 at j1 hb1 ⊢
  have hB2 : Below w.heap.size w w2 := HB.out.trans (hb1.mono HB.out.size)
  have hco : Co w w.heap.size w2 w1.heap.size [] := ⟨⟨_, j1, R_empty _ _⟩, hB2, HB.out.size, hB2.size⟩
  have hcall := codeSt_any l A c w w2 w1.heap.size [] hco (by have := code_fit HH.out; simp; omega) HC.out.1 HC.out.2
  have HCA := Aside0.mk hcall
  clear j1 hb1 hB2 hco hcall
  go_wp2_with fail
  refine HCA.out.mono ?_
  clear HCA
  rintro e w3 ⟨rfl, hco, _⟩
  have hr : ([] ++ codeS l ([] : List IIns).length) = rs := by rw [HRS.out, codeR, if_pos HH.out]; rfl
  rw [hr] at hco
  obtain ⟨⟨v, hg, hR⟩, h2, h3, h4⟩ := hco
  obtain ⟨U, y, rfl⟩ := Kd.R_slice hR
  have q0 : w3.cell? ⟨w1.heap.size, 0, none⟩ = some (.slice U rs.length y) := (blk_cell hg 0).trans rfl
  have HF := Aside0.mk (And.intro hR h2)
  clear hr hg hR h2 h3 h4
  go_wp2
  go_ret
  exact ⟨U, y, rfl, HF.out⟩
 ·have h' : (countL 4 l 0).1 = false := Bool.eq_false_iff.2 h
  have hr : rs = [] := by rw [HRS.out, codeR, if_neg h]
  rw [h']
  have HR := Aside0.mk hr
  clear h h' hr
  go_wp2
  go_ret
  refine ⟨none, 0, ?_⟩
  rw [HR.out]
  exact ⟨rfl, R_empty _ _, HB.out⟩
end Go.Proofs.Ytddnijmgipffeaa.B
