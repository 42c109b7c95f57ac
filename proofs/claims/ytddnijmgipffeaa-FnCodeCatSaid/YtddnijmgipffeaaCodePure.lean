/- Plain facts on the coder's code: places move with it; each way leads where it should; how many ways back and jumps there are. -/
import Derived.Test.YtddnijmgipffeaaCodeAll
import Derived.Test.YtddnijmgipffeaaDrawAll
import Derived.Test.YtddnijmgipffeaaPkE
namespace Go.Proofs.Ytddnijmgipffeaa.B
open Go.RowKit Go.Proofs.YtddnijmgipffeaaW.PrintWords Go.Proofs.YtddnijmgipffeaaW.PrintLast Go.Proofs.YtddnijmgipffeaaW.PrintMore
set_option linter.unusedVariables false

theorem insSame_ends (a : List IIns) (h : a.length ≤ 1000000) : Ends (fun k => impl_CodeSame.f k a a) true := by
 have loop : ∀ (d j : Nat), j + d = a.length → Ends (fun k => impl_Ins.l0 k a a (a.length : Int) (j : Int)) true := by
  intro d
  induction d with
  | zero => intro j hj; exact Ends.succ (fun k => by rw [impl_Ins.l0, if_neg (by omega)]) (Ends.const fun k => rfl)
  | succ d ih =>
   intro j hj
   exact Ends.succ (fun k => by rw [impl_Ins.l0, if_pos (by omega), if_pos (by omega), if_pos (by omega), if_pos (by omega), if_neg (by simp), show wrap64 ((j : Int) + 1) = ((j + 1 : Nat) : Int) by rw [wrap_in (by omega) (by omega)]; omega]) (ih (j + 1) (by omega))
 refine Ends.of ?_ (fun k => by rw [impl_CodeSame.f, impl_Ins.f, if_pos rfl])
 exact (loop a.length 0 (by omega)).bind (Ends.const fun k => rfl)
theorem rdI_in (l : List IIns) (j : Nat) (h : j < l.length) : rd_T39 l (j : Int) = l[j] := by simp [rd_T39, h]

/-- An instruction whose code lies so far on. -/
def moved (m : Nat) (x : IIns) : IIns := if x.f0 = 6 ∨ x.f0 = 7 ∨ x.f0 = 8 then ⟨x.f0, x.f1 + m, x.f2⟩ else x
theorem codeE_plain (e : S46) : ∀ x ∈ codeE e, x.f0 = 1 ∨ x.f0 = 2 ∨ x.f0 = 4 ∨ x.f0 = 5 := by
 refine cxInd (P := fun e => ∀ x ∈ codeE e, x.f0 = 1 ∨ x.f0 = 2 ∨ x.f0 = 4 ∨ x.f0 = 5) ?_ e
 intro e ih x hx
 rw [codeE_eq] at hx
 rcases List.mem_append.1 hx with hx | hx
 ·obtain ⟨y, hy, hx⟩ := List.mem_flatMap.1 hx
  exact ih y hy x hx
 ·obtain rfl := List.mem_singleton.1 hx
  unfold insOf
  by_cases h1 : e.f0 = 1
  ·rw [if_pos h1]; exact .inl rfl
  by_cases h2 : e.f0 = 2
  ·rw [if_neg h1, if_pos h2]; exact .inr (.inl rfl)
  by_cases h3 : e.f0 = 10
  ·rw [if_neg h1, if_neg h2, if_pos h3]; exact .inr (.inr (.inr rfl))
  ·rw [if_neg h1, if_neg h2, if_neg h3]; exact .inr (.inr (.inl rfl))
theorem codeE_moved (m : Nat) (e : S46) : (codeE e).map (moved m) = codeE e := by
 have : ∀ x ∈ codeE e, moved m x = id x := fun x hx => by
  have := codeE_plain e x hx
  unfold moved
  rw [if_neg (by omega)]; rfl
 rw [List.map_congr_left this, List.map_id]
theorem moved_way (m : Nat) (op : Int) (h : op = 6 ∨ op = 7 ∨ op = 8) (A : Nat) (z : S37) : moved m ⟨op, (A : Int), z⟩ = ⟨op, ((A + m : Nat) : Int), z⟩ := by
 rw [moved, if_pos h]
 simp
theorem codeOne_moved (m : Nat) (x : ISt) (h3 : ∀ n, codeS x.f3 (n + m) = (codeS x.f3 n).map (moved m)) (h4 : ∀ n, codeS x.f4 (n + m) = (codeS x.f4 n).map (moved m)) (n : Nat) : codeOne x (n + m) = (codeOne x n).map (moved m) := by
 rw [codeOne_eq, codeOne_eq]
 obtain ⟨E, hE⟩ : ∃ E, E = codeE x.f2 := ⟨_, rfl⟩
 have hm := codeE_moved m x.f2
 rw [← hE] at hm ⊢
 have e1 : n + m + E.length + 1 = (n + E.length + 1) + m := by omega
 rw [e1, h3]
 obtain ⟨T, hT⟩ : ∃ T, T = codeS x.f3 (n + E.length + 1) := ⟨_, rfl⟩
 rw [← hT, List.length_map]
 have e2 : n + E.length + 1 + m + T.length + 1 = (n + E.length + 1 + T.length + 1) + m := by omega
 rw [e2, h4]
 obtain ⟨U, hU⟩ : ∃ U, U = codeS x.f4 (n + E.length + 1 + T.length + 1) := ⟨_, rfl⟩
 rw [← hU, List.length_map]
 by_cases k1 : x.f0 = 1
 ·rw [if_pos k1, if_pos k1, List.map_append, hm]; rfl
 by_cases k2 : x.f0 = 2
 ·rw [if_neg k1, if_neg k1, if_pos k2, if_pos k2]
  simp only [List.map_append, hm, List.map_cons, List.map_nil]
  rw [moved_way m 6 (by omega), moved_way m 7 (by omega), show n + E.length + 1 + T.length + 1 + m + U.length = n + E.length + 1 + T.length + 1 + U.length + m by omega]
 by_cases k3 : x.f0 = 3
 ·rw [if_neg k1, if_neg k1, if_neg k2, if_neg k2, if_pos k3, if_pos k3]
  simp only [List.map_append, hm, List.map_cons, List.map_nil]
  rw [moved_way m 6 (by omega), moved_way m 8 (by omega)]
 ·rw [if_neg k1, if_neg k1, if_neg k2, if_neg k2, if_neg k3, if_neg k3, hm]
theorem codeS_moved (m : Nat) (l : StRow) : ∀ n, codeS l (n + m) = (codeS l n).map (moved m) := by
 refine rowInd (P := fun l => ∀ n, codeS l (n + m) = (codeS l n).map (moved m)) ?_ l
 intro l h
 induction l with
 | nil => intro n; simp [codeS]
 | cons s l ih =>
  intro n
  have hs := h s List.mem_cons_self
  rw [codeS, codeS, codeOne_moved m s hs.1 hs.2 n, List.map_append, List.length_map, ← ih (fun x hx => h x (List.mem_cons_of_mem _ hx)) (n + (codeOne s n).length)]
  congr 2
  omega
theorem codeS_at (l : StRow) (n : Nat) : codeS l n = (codeS l 0).map (moved n) := by
 have := codeS_moved n l 0
 rwa [Nat.zero_add] at this

/-- An instruction at a place: a way back goes to one ahead of it, not below lo; each other way goes behind it, not above hi. -/
def wayOk (lo n hi : Nat) (x : IIns) : Prop := (x.f0 = 8 → (lo : Int) ≤ x.f1 ∧ x.f1 < n) ∧ (x.f0 = 7 ∨ x.f0 = 6 → (n : Int) < x.f1 ∧ x.f1 ≤ hi)
def ways (lo n hi : Nat) (xs : List IIns) : Prop := ∀ (i : Nat) (h : i < xs.length), wayOk lo (n + i) hi xs[i]
theorem ways_append {lo n hi : Nat} {xs ys : List IIns} (h : ways lo n hi xs) (h' : ways lo (n + xs.length) hi ys) : ways lo n hi (xs ++ ys) := by
 intro i hi'
 rw [List.length_append] at hi'
 by_cases hx : i < xs.length
 ·rw [List.getElem_append_left hx]; exact h i hx
 ·rw [List.getElem_append_right (by omega)]
  have := h' (i - xs.length) (by omega)
  rw [show n + xs.length + (i - xs.length) = n + i by omega] at this
  exact this
theorem ways_mono {lo n hi lo' hi' : Nat} {xs : List IIns} (h : ways lo n hi xs) (h1 : lo' ≤ lo) (h2 : hi ≤ hi') : ways lo' n hi' xs := by
 intro i hx
 obtain ⟨a, b⟩ := h i hx
 exact ⟨fun e => ⟨by have := (a e).1; omega, (a e).2⟩, fun e => ⟨(b e).1, by have := (b e).2; omega⟩⟩
theorem ways_plain {lo n hi : Nat} {xs : List IIns} (h : ∀ x ∈ xs, x.f0 = 1 ∨ x.f0 = 2 ∨ x.f0 = 3 ∨ x.f0 = 4 ∨ x.f0 = 5) : ways lo n hi xs := by
 intro i hx
 have := h _ (List.getElem_mem hx)
 exact ⟨fun e => by omega, fun e => by omega⟩
theorem ways_nil {lo n hi : Nat} : ways lo n hi [] := fun i h => absurd h (by simp)
theorem ways_one {lo n hi : Nat} {x : IIns} (h : wayOk lo n hi x) : ways lo n hi [x] := by
 intro i hi'
 obtain rfl : i = 0 := by simp at hi'; omega
 exact h
theorem ways_code {lo n hi : Nat} (e : S46) : ways lo n hi (codeE e) := ways_plain fun x hx => by have := codeE_plain e x hx; omega
theorem codeOne_ways (x : ISt) (h3 : ∀ n, ways n n (n + (codeS x.f3 n).length) (codeS x.f3 n)) (h4 : ∀ n, ways n n (n + (codeS x.f4 n).length) (codeS x.f4 n)) (n : Nat) : ways n n (n + (codeOne x n).length) (codeOne x n) := by
 rw [codeOne_eq]
 obtain ⟨E, hE⟩ : ∃ E, E = codeE x.f2 := ⟨_, rfl⟩
 have hc : ∀ lo n hi, ways lo n hi E := fun lo n hi => by rw [hE]; exact ways_code _
 rw [← hE]
 have g3 := h3 (n + E.length + 1)
 obtain ⟨T, hT⟩ : ∃ T, T = codeS x.f3 (n + E.length + 1) := ⟨_, rfl⟩
 rw [← hT] at g3 ⊢
 have g4 := h4 (n + E.length + 1 + T.length + 1)
 obtain ⟨U, hU⟩ : ∃ U, U = codeS x.f4 (n + E.length + 1 + T.length + 1) := ⟨_, rfl⟩
 rw [← hU] at g4 ⊢
 by_cases k1 : x.f0 = 1
 ·rw [if_pos k1]
  exact ways_append (hc _ _ _) (ways_plain fun y hy => by obtain rfl := List.mem_singleton.1 hy; simp)
 by_cases k2 : x.f0 = 2
 ·rw [if_neg k1, if_pos k2]
  refine ways_append (ways_append (ways_append (ways_append (hc _ _ _) (ways_one ?_)) ?_) (ways_one ?_)) ?_
  ·exact ⟨fun e => absurd e (by simp), fun _ => ⟨by dsimp only; omega, by simp only [List.length_append, List.length_singleton]; omega⟩⟩
  ·have := ways_mono (lo' := n) (hi' := n + (E.length + 1 + T.length + 1 + U.length)) g3 (by omega) (by omega)
   simpa only [List.length_append, List.length_singleton, Nat.add_assoc] using this
  ·exact ⟨fun e => absurd e (by simp), fun _ => ⟨by simp only [List.length_append, List.length_singleton]; omega, by simp only [List.length_append, List.length_singleton]; omega⟩⟩
  ·have := ways_mono (lo' := n) (hi' := n + (E.length + 1 + T.length + 1 + U.length)) g4 (by omega) (by omega)
   simpa only [List.length_append, List.length_singleton, Nat.add_assoc] using this
 by_cases k3 : x.f0 = 3
 ·rw [if_neg k1, if_neg k2, if_pos k3]
  refine ways_append (ways_append (ways_append (hc _ _ _) (ways_one ?_)) ?_) (ways_one ?_)
  ·exact ⟨fun e => absurd e (by simp), fun _ => ⟨by dsimp only; omega, by simp only [List.length_append, List.length_singleton]; omega⟩⟩
  ·have := ways_mono (lo' := n) (hi' := n + (E.length + 1 + T.length + 1)) g3 (by omega) (by omega)
   simpa only [List.length_append, List.length_singleton, Nat.add_assoc] using this
  ·exact ⟨fun _ => ⟨by dsimp only; omega, by simp only [List.length_append, List.length_singleton]; omega⟩, fun e => absurd e (by simp)⟩
 ·rw [if_neg k1, if_neg k2, if_neg k3]
  exact hc _ _ _
theorem codeS_ways (l : StRow) : ∀ n, ways n n (n + (codeS l n).length) (codeS l n) := by
 refine rowInd (P := fun l => ∀ n, ways n n (n + (codeS l n).length) (codeS l n)) ?_ l
 intro l h
 induction l with
 | nil => intro n; rw [codeS]; exact ways_nil
 | cons s l ih =>
  intro n
  have hs := h s List.mem_cons_self
  have h1 := codeOne_ways s hs.1 hs.2 n
  have h2 := ih (fun x hx => h x (List.mem_cons_of_mem _ hx)) (n + (codeOne s n).length)
  rw [codeS]
  refine ways_append (ways_mono h1 (Nat.le_refl _) (by rw [List.length_append]; omega)) (ways_mono h2 (by omega) (by rw [List.length_append]; omega))

/-- How many of an instruction there are. -/
def insN (op : Int) (xs : List IIns) : Nat := xs.countP (fun x => x.f0 == op)
theorem insN_append (op : Int) (xs ys : List IIns) : insN op (xs ++ ys) = insN op xs + insN op ys := List.countP_append
theorem insN_code (op : Int) (h : op = 7 ∨ op = 8) (e : S46) : insN op (codeE e) = 0 := by
 rw [insN, List.countP_eq_zero]
 intro x hx
 have := codeE_plain e x hx
 simp only [beq_iff_eq]
 omega
/-- How many statements of a kind there are, up to so deep. -/
def kindN (q : Int) : Nat → List ISt → Nat
 | 0, _ => 0
 | d + 1, l => (l.map fun s => (if s.f0 = q then 1 else 0) + kindN q d s.f3 + kindN q d s.f4).sum
theorem kindN_nil (q : Int) (d : Nat) : kindN q d [] = 0 := by cases d <;> simp [kindN]
theorem kindN_le (q : Int) (d : Nat) : ∀ l : List ISt, kindN q d l ≤ manyT d l := by
 induction d with
 | zero => intro l; simp [kindN]
 | succ d ih =>
  intro l
  rw [kindN, manyT]
  induction l with
  | nil => simp
  | cons a l ihl =>
   rw [List.map_cons, List.sum_cons, List.map_cons, List.sum_cons, List.length_cons]
   have h3 := ih a.f3
   have h4 := ih a.f4
   have : (if a.f0 = q then 1 else 0) ≤ 1 := by split <;> omega
   omega
theorem insN_one (q op : Int) (hq : q = 2 ∧ op = 7 ∨ q = 3 ∧ op = 8) (d : Nat) (x : ISt) (hp : plainL x = true) (h3 : ∀ n, insN op (codeS x.f3 n) = kindN q d x.f3) (h4 : ∀ n, insN op (codeS x.f4 n) = kindN q d x.f4) (n : Nat) :
  insN op (codeOne x n) = (if x.f0 = q then 1 else 0) + kindN q d x.f3 + kindN q d x.f4 := by
 have he : insN op (codeE x.f2) = 0 := insN_code op (by omega) _
 unfold plainL at hp
 rw [codeOne_eq]
 by_cases k1 : x.f0 = 1
 ·rw [if_pos k1] at hp ⊢
  simp only [Bool.and_eq_true, beq_iff_eq, List.length_eq_zero_iff] at hp
  rw [insN_append, he, hp.2.1, hp.2.2, kindN_nil, k1, if_neg (by omega)]
  rcases hq with ⟨_, rfl⟩ | ⟨_, rfl⟩ <;> rfl
 by_cases k2 : x.f0 = 2
 ·rw [if_neg k1, if_pos k2]
  simp only [insN_append, he, h3, h4]
  rcases hq with ⟨rfl, rfl⟩ | ⟨rfl, rfl⟩
  ·rw [if_pos k2]; simp only [insN, List.countP_cons, List.countP_nil]; simp
   omega
  ·rw [if_neg (by omega)]; simp only [insN, List.countP_cons, List.countP_nil]; simp
 by_cases k3 : x.f0 = 3
 ·rw [if_neg k1, if_neg k2, if_pos k3] at hp ⊢
  simp only [Bool.and_eq_true, beq_iff_eq, List.length_eq_zero_iff] at hp
  rw [hp.2, kindN_nil]
  simp only [insN_append, he, h3]
  rcases hq with ⟨rfl, rfl⟩ | ⟨rfl, rfl⟩
  ·rw [if_neg (by omega)]; simp only [insN, List.countP_cons, List.countP_nil]; simp
  ·rw [if_pos k3]; simp only [insN, List.countP_cons, List.countP_nil]; simp
   omega
 ·rw [if_neg k1, if_neg k2, if_neg k3] at hp; cases hp
theorem insN_all (q op : Int) (hq : q = 2 ∧ op = 7 ∨ q = 3 ∧ op = 8) (d : Nat) : ∀ l : List ISt, formT d l = true → ∀ n, insN op (codeS l n) = kindN q d l := by
 induction d with
 | zero =>
  intro l h n
  rw [formT, List.isEmpty_iff] at h
  subst h
  simp [codeS, kindN, insN]
 | succ d ih =>
  intro l h
  rw [formT, List.all_eq_true] at h
  rw [kindN]
  induction l with
  | nil => intro n; simp [codeS, insN]
  | cons a l ihl =>
   intro n
   have ha := h a List.mem_cons_self
   rw [Bool.and_eq_true, Bool.and_eq_true] at ha
   rw [codeS, insN_append, insN_one q op hq d a (head_ex ha.1).1 (ih _ ha.2.1) (ih _ ha.2.2) n, ihl (fun s hs => h s (List.mem_cons_of_mem _ hs)) (n + (codeOne a n).length), List.map_cons, List.sum_cons]

/-- A draw of statements: few, each of few parts. -/
theorem drawCode_ends (l : List Int) (hw : ∀ x ∈ l, (Lit.int .u8 x).wf = true) : ∃ L : List ISt, Fit 500 L ∧ Ends (fun k => spec_DrawCodeOf.f k l) L := by
 obtain ⟨s, hs, hl, ho⟩ := open_total l hw
 obtain ⟨L, p', h1, h2, h3, h4⟩ := stBent_ends s hs hl 0 (by omega) (by omega)
 refine ⟨L, h1, ?_⟩
 refine Ends.of ?_ (fun k => by rw [spec_DrawCodeOf.f, ho, Option.bind_some])
 exact h4.bind (Ends.const fun k => rfl)
theorem Fit.many {L : List ISt} (h : Fit 500 L) : manyT 4 L ≤ 1048576 := Nat.le_trans (manyT_cnt 4 L) (Nat.le_trans h.1 (by decide))
theorem Fit.oks {n : Nat} {L : List ISt} (h : Fit n L) : ∀ s ∈ L, istOk s := fun s hs => (h.2 s hs).ok
end Go.Proofs.Ytddnijmgipffeaa.B
