import Derived.Test.YtfmipdhkiahjoaaDoorJnB
import Derived.Test.YtfmipdhkiahjoaaDoorJnF
import Derived.Test.YtfmipdhkiahjoaaDoorF8
import Derived.Test.YtfmipdhkiahjoaaDoorDrwChBent
import Derived.Test.YtfmipdhkiahjoaaDoorJnD
import Derived.Test.YtfmipdhkiahjoaaDoorF5
/- append onto an empty list of one's own: nothing elder is written. -/
namespace Go.Proofs.YtfmipdhkiahjoaaDoor.B
open Go Go.RowKit Go.Shelf Go.Lib Go.Proofs.YtfmipdhkiahjoaaDoorW.PrintWords Go.Proofs.YtfmipdhkiahjoaaDoorW.PrintLast Go.Proofs.YtfmipdhkiahjoaaDoorW.PrintMore
set_option linter.unusedVariables false
theorem append_nil0 {P : Program} {t e : TypeId} {i0 : TypeInfo} (ht : P.underlying t = some (.slice e)) (hi : P.info? e = some i0) (A : Option Addr) (B : Addr) (n c : Nat) (hn : 0 < n) (hc : ¬ (281474976710656 < Builtin.nextslicecap n 0 * i0.bytes)) (T : TypeId) (W : World) : (Builtin.append_ #[t, t] T #[.slice A 0 0, .slice (some B) n c]).run P W = (Builtin.append_ #[t, t] T #[.slice none 0 0, .slice (some B) n c]).run P W := by
 have hl : ∀ (a : Addr) (w : World), (loadCells a 0).run P w = .ok #[] w := fun a w => by simp [loadCells, loadCellsFrom]
 have hn0 : n ≠ 0 := by omega
 cases A with
 | none => rfl
 | some a => simp [Builtin.append_, run_underlying ht, sizeOf, typeInfo, hi, Builtin.lenOf, Builtin.firstCells, hl, hn0, hc, Result.andThen]
theorem append_zero0 {P : Program} {t e : TypeId} {i0 : TypeInfo} (ht : P.underlying t = some (.slice e)) (hi : P.info? e = some i0) (A B : Option Addr) (c : Nat) (T : TypeId) (W : World) : (Builtin.append_ #[t, t] T #[.slice A 0 0, .slice B 0 c]).run P W = .ok (.slice A 0 0) W := by
 cases A <;> cases B <;> simp [Builtin.append_, run_underlying ht, sizeOf, typeInfo, hi, Builtin.lenOf, Builtin.firstCells, Result.andThen, loadCells, loadCellsFrom, storeCells]
section
variable {α : Type} {ops : Array Oper} {o : Oper} {b : Act} {W : World} {Ψ : Value → World → Prop}
/-- An empty list. -/
theorem stepLit00 {P : Program} {e : TypeId} (hw : Region.wanted o (yielded ops b.tmps) = true) (hrun : (execOp b.eval o).run P W = .ok (.value (.slice (some ⟨W.heap.size, 0, none⟩) 0 0)) (W.alloc (.cells #[] e)))
  (h : ∀ A W', Below W.heap.size W W' → Ψ (.slice A 0 0) W') : StepOK P ops o b W Ψ := fun K Q hK =>
 event_step hw hrun (hK _ _ (h _ _ ((Below.refl _ _).alloc (Nat.le_refl _) _)))
/-- A literal row of one: its box. -/
theorem stepLit1 {P : Program} {T : TypeId} {cs : Array Value} (hw : Region.wanted o (yielded ops b.tmps) = true) (hrun : (execOp b.eval o).run P W = .ok (.value (.slice (some ⟨W.heap.size, 0, none⟩) 1 1)) (W.alloc (.cells cs T)))
  (h : ∀ q W', q = W.heap.size → Box W' q T cs → Below W.heap.size W W' → Ψ (.slice (some ⟨q, 0, none⟩) 1 1) W') : StepOK P ops o b W Ψ := fun K Q hK =>
 event_step hw hrun (hK _ _ (h _ _ rfl (blk_new W _) ((Below.refl _ _).alloc (Nat.le_refl _) _)))
/-- append onto what is empty and without room. -/
theorem stepAppE {P : Program} (d : Kd α) {s x : Operand} {t e : TypeId} {z : Value} {bytes base : Nat} (hw : Region.wanted o (yielded ops b.tmps) = true) (ho : o.op = .call { callee := .builtin .append, args := #[s, x], argTypes := #[t, t] })
  (ht : P.underlying t = some (.slice e)) (hinfo : (P.info? e).map (fun i => (i.zero, i.size, i.bytes)) = some (some z, d.sz, bytes)) (hz : z.cells.size = d.sz) (hs0 : 0 < d.sz) (hb0 : 0 < bytes)
  {A B : Option Addr} {n c : Nat} {ys : List α} {ok okp : Nat → Prop} (hs : b.eval s = .slice A 0 0) (hx : b.eval x = .slice B n c) (hF : Kd.F d W okp B n ys) (hokp : ∀ k, okp k → ok k) (hfresh : ∀ k, W.heap.size ≤ k → ok k) (hbase : base ≤ W.heap.size)
  (hl : n * bytes ≤ 140737488355328) (hcap : ¬ (281474976710656 < Builtin.nextslicecap n 0 * bytes)) (h0 : ys = [] → Ψ (.slice A 0 0) W) (h : ys ≠ [] → ∀ v W', Kd.N d e W' base ok v ys → (∀ k, v.ownBlock = some k → W.heap.size ≤ k) → Below W.heap.size W W' → Ψ v W') : StepOK P ops o b W Ψ := by
 have hys : ys.length = n := Kd.F_len hF
 obtain ⟨i0, hi, hzz⟩ := Option.map_eq_some_iff.1 hinfo
 simp only [Prod.mk.injEq] at hzz
 obtain ⟨_, _, hz2⟩ := hzz
 intro K Q hK
 rcases Nat.eq_zero_or_pos n with hn | hn
 ·subst hn
  rw [if_pos hw]
  unfold Oper.wp execOp
  simp only [ho, resolve, invoke, builtin, Sem.run_bind, Sem.run_pure, Result.andThen_ok, List.map_toArray, List.map_cons, List.map_nil, hs, hx, append_zero0 ht hi]
  exact hK _ _ (h0 (List.eq_nil_of_length_eq_zero hys))
 ·have hne : ys ≠ [] := fun e => by rw [e] at hys; simp at hys; omega
  obtain ⟨ad, rfl⟩ : ∃ ad, B = some ad := by
   obtain ⟨ad, h1, _⟩ := (Kd.F_now hF).2.2 hn
   exact ⟨ad, h1⟩
  have H := Kd.N_append_rows_step (P := P) (ops := ops) (o := { o with op := .call { callee := .builtin .append, args := #[.const (.slice none 0 0), x], argTypes := #[t, t] }, guard := none }) (a := b) (Kc := K) (Q := Q) d base (by simp [Region.wanted]) (.const (.slice none 0 0)) x t e z bytes rfl ht hinfo hz hs0 hb0 (.slice none 0 0) [] ys (some ad) n c ok okp rfl hx (Kd.N_nil _ _ _ _ _) hF (fun k hk => ⟨hokp k hk, by simp [Value.ownBlock]⟩) hfresh (Below.refl base W) hbase (by simpa using hl) (fun v1 w1 hN hb hg hat => hK _ _ (h hne v1 w1 (by simpa using hN) (fun k hk => by
   rcases hat with hat | ⟨b', hat, hle⟩
   ·rw [hat] at hk; cases hk
   ·rw [hat] at hk; injection hk with hk; omega) ((Below.refl _ _).grown hg (Nat.le_refl _) (fun k hk => by cases hk))))
  rw [if_pos (by simp [Region.wanted])] at H
  rw [if_pos hw]
  have he : (execOp b.eval o).run P W = (execOp b.eval { o with op := .call { callee := .builtin .append, args := #[.const (.slice none 0 0), x], argTypes := #[t, t] }, guard := none }).run P W := by
   unfold execOp
   simp only [ho, resolve, invoke, builtin, Sem.run_bind, Sem.run_pure, Result.andThen_ok, List.map_toArray, List.map_cons, List.map_nil, hs, hx, show b.eval (.const (.slice none 0 0)) = .slice none 0 0 from rfl, append_nil0 ht hi A ad n c hn (by rw [hz2]; exact hcap)]
  unfold Oper.wp at H ⊢
  rw [he]
  exact H
end
theorem own_size {α : Type} {d : Kd α} {e base : Nat} {W : World} {ok : Nat → Prop} {v : Value} {xs : List α} (h : Kd.N d e W base ok v xs) (hn : 0 < xs.length) : ∃ b cs, v.ownBlock = some b ∧ base ≤ b ∧ W.heap[b]? = some (.cells cs e (0, 0)) ∧ xs.length * d.sz ≤ cs.size := by
 obtain ⟨_, rows, hl, ⟨_, inner, ho, _⟩, _⟩ := h
 rcases ho.2 with ⟨_, h0⟩ | ⟨b, cap, cur, rfl, hb, hh, hc, _, hs, _⟩
 ·omega
 ·refine ⟨b, cur, rfl, hb, hh, ?_⟩
  rw [hs, ← hl]
  exact Nat.mul_le_mul_right _ hc
theorem C_one {α : Type} {d : Kd α} {W : World} {q T : Nat} {cs : Array Value} {x : α} (hb : Box W q T cs) (hK : d.K W x cs.toList) (hs : cs.size = d.sz) : d.C W (some ⟨q, 0, none⟩) 1 [x] :=
 ⟨rfl, by omega, fun _ => ⟨_, rfl, fun j y hy => by
  obtain ⟨hj, rfl⟩ : j = 0 ∧ x = y := by
   cases j with
   | zero => exact ⟨rfl, by simpa using hy⟩
   | succ j => simp at hy
  subst hj
  refine ⟨cs.toList, by simpa using hs, hK, fun i u hu => ?_⟩
  have := blk_cell hb i
  have he : (if i = 0 then (⟨q, 0, none⟩ : Addr) else ⟨q, i, none⟩) = ⟨q, i, none⟩ := by split <;> simp_all
  simp only [Nat.zero_mul, Nat.zero_add, Addr.add]
  rw [he, this]
  simpa using hu⟩⟩
theorem C_int1 {W : World} {q : Nat} {n : Int} (hb : Box W q 3 #[.int .i64 n]) : Kd.C (Kd.int .i64) W (some ⟨q, 0, none⟩) 1 [n] := C_one hb rfl rfl
theorem cap5 (n : Nat) (h : n ≤ 5) : ¬ (281474976710656 < Builtin.nextslicecap n 0 * 104) := by
 have : n = 0 ∨ n = 1 ∨ n = 2 ∨ n = 3 ∨ n = 4 ∨ n = 5 := by omega
 rcases this with rfl | rfl | rfl | rfl | rfl | rfl <;> decide
end Go.Proofs.YtfmipdhkiahjoaaDoor.B
/- The marks of a new chart. -/
namespace Go.Proofs.YtfmipdhkiahjoaaDoor.B
open Go Go.RowKit Go.Shelf Go.Proofs.YtfmipdhkiahjoaaDoorW.PrintWords Go.Proofs.YtfmipdhkiahjoaaDoorW.PrintLast Go.Proofs.YtfmipdhkiahjoaaDoorW.PrintMore
set_option linter.unusedVariables false
def newR (s : Int) (b : Bool) : List Bool × List Bool := if b = true then ((List.replicate (s : Int).toNat false).set (0 : Int).toNat true, List.replicate 6 false) else ([], [])
theorem chOk_steps {s : Int} {l : List ITr} {m : List IAc} (h : chOkL s l m = true) : 1 ≤ s ∧ s ≤ 6 := by
 unfold chOkL at h
 simp only [Bool.and_eq_true, Bool.not_eq_true', Bool.or_eq_false_iff, decide_eq_false_iff_not] at h
 omega
theorem newMarks_is {s : Int} {l : List ITr} {m : List IAc} (h : chOkL s l m = true) : impl_newMarks.f s l m = some (newR s true) := by
 have := chOk_steps h
 rw [impl_newMarks.f, if_pos (by omega), if_pos (by omega), Option.bind_some, if_pos (by decide), if_pos (by rw [List.length_replicate]; omega)]
 rfl
theorem implNew_is (s : Int) (l : List ITr) (m : List IAc) : impl_ChartNew.f s l m = some (newR s (chOkL s l m)) := by
 rw [impl_ChartNew.f, impl_chartOk.f, Option.bind_some]
 cases h : chOkL s l m with
 | false => rfl
 | true => rw [if_pos rfl, newMarks_is h]; rfl
end Go.Proofs.YtfmipdhkiahjoaaDoor.B
/- Charts and marks as values that are only read, and the functions over them. -/
namespace Go.Proofs.YtfmipdhkiahjoaaDoor.B
open Go Go.RowKit Go.Shelf Go.Proofs.YtfmipdhkiahjoaaDoorW.PrintWords Go.Proofs.YtfmipdhkiahjoaaDoorW.PrintLast Go.Proofs.YtfmipdhkiahjoaaDoorW.PrintMore
set_option linter.unusedVariables false
abbrev Chv := Int × List ITr × List IAc
abbrev Cq := (Option Addr × Nat) × (Option Addr × Nat)
def cA (c : Chv) (q : Cq) : Array Value := #[.int .i64 c.1, .slice q.1.1 c.2.1.length q.1.2, .slice q.2.1 c.2.2.length q.2.2]
theorem cA_one (c : Chv) (q : Cq) : (cA c q).all (·.oneCell') = true := by simp [cA, Value.oneCell']
structure CVo (W : World) (ok : Nat → Prop) (c : Chv) (q : Cq) : Prop where
 t : Kd.V k37 37 W 0 ok (.slice q.1.1 c.2.1.length q.1.2) c.2.1
 a : Kd.V k39 39 W 0 ok (.slice q.2.1 c.2.2.length q.2.2) c.2.2
abbrev CV (W : World) (c : Chv) (q : Cq) : Prop := CVo W (fun _ => True) c q
theorem CVo.below {W W' : World} {ok : Nat → Prop} {c : Chv} {q : Cq} (h : CVo W ok c q) (hb : Below W.heap.size W W') : CVo W' ok c q := ⟨Kd.V_below h.t hb, Kd.V_below h.a hb⟩
theorem CVo.last (ok : Nat → Prop) (c : Chv) (q : Cq) : Lasts fun W => CVo W ok c q := fun _ _ hb h => h.below hb
theorem CV.last (c : Chv) (q : Cq) : Lasts fun W => CV W c q := fun _ _ hb h => h.below hb
theorem CVo.mono {W : World} {ok ok' : Nat → Prop} {c : Chv} {q : Cq} (h : CVo W ok c q) (ho : ∀ k, ok k → ok' k) : CVo W ok' c q := ⟨Kd.V_mono h.t ho, Kd.V_mono h.a ho⟩
theorem CVo.bound {W : World} {ok : Nat → Prop} {c : Chv} {q : Cq} (h : CVo W ok c q) : CVo W (fun k => ok k ∧ k < W.heap.size) c q := ⟨Kd.V_bound h.t, Kd.V_bound h.a⟩
theorem CVo.all {W : World} {ok : Nat → Prop} {c : Chv} {q : Cq} (h : CVo W ok c q) : CV W c q := h.mono fun _ _ => trivial
theorem CVo.reads {W : World} {ok : Nat → Prop} {c : Chv} {q : Cq} (h : CVo W ok c q) : (c.2.1.length ≤ q.1.2 ∧ Kd.C k37 W q.1.1 c.2.1.length c.2.1) ∧ c.2.2.length ≤ q.2.2 ∧ Kd.C k39 W q.2.1 c.2.2.length c.2.2 := ⟨(Kd.V_reads' h.t).2, (Kd.V_reads' h.a).2⟩
section
variable {ops : Array Oper} {rest : List Oper} {o : Oper} {a : Act} {Q : Exit → Act → World → Prop} {W : World}
theorem getC_ {N q : Tmp} {g : Nat} {c : Chv} {p : Cq} (ho : o.op = .load 26 (.tmp q)) (hd : o.dst = some N) (hg : o.guard = none) (hx : a.eval (.tmp q) = .pointer (some ⟨g, 0, none⟩)) (hb : Box W g 26 (cA c p))
  (h : wpList Tryd.prog ops Q rest (a.put (some N) (.agg (cA c p))) W) : wpList Tryd.prog ops Q (o :: rest) a W := boxGet_ ho hd hg hx hb Tryd.underlying26 rfl (by kernel_rfl) h
end
abbrev Mkv := List Bool × List Bool
def kA (m : Mkv) (q : Cq) : Array Value := #[.slice q.1.1 m.1.length q.1.2, .slice q.2.1 m.2.length q.2.2]
structure KVo (W : World) (ok : Nat → Prop) (m : Mkv) (q : Cq) : Prop where
 a : Kd.V Kd.bool 4 W 0 ok (.slice q.1.1 m.1.length q.1.2) m.1
 b : Kd.V Kd.bool 4 W 0 ok (.slice q.2.1 m.2.length q.2.2) m.2
abbrev KV (W : World) (m : Mkv) (q : Cq) : Prop := KVo W (fun _ => True) m q
section
variable {ops : Array Oper} {rest : List Oper} {o : Oper} {a : Act} {Q : Exit → Act → World → Prop} {W : World}
end
theorem tiny_iex {e : Ex} (h : Tiny e) : iexOk e := by
 induction h with
 | mk e hl _ ih => exact (iexOk_eq e).2 ⟨by omega, ih⟩
/-- A chart of a size that a machine's memory holds by far. -/
def ChSmall (c : Chv) : Prop := ChFit 100 c.2.1 c.2.2
theorem ChSmall.ok {c : Chv} (h : ChSmall c) : chOk c.2.1 c.2.2 := ⟨⟨by have := h.1; omega, fun t ht => ⟨by have := (h.2.1 t ht).1; omega, by have := (h.2.1 t ht).2.1; omega, tiny_iex (h.2.1 t ht).2.2⟩⟩, by have := h.2.2; omega⟩
def chE (c : Chv) : Bool := chOkL c.1 c.2.1 c.2.2
theorem chOkI_any (c : Chv) (q : Cq) (W : World) (h : CV W c q) : Calls Tryd.prog 5 #[.agg (cA c q)] W fun e W' => e = .returned (.bool (chE c)) ∧ Below W.heap.size W W' :=
 impl_ChartOk.calls c.1 q.1.1 q.1.2 c.2.1 q.2.1 q.2.2 c.2.2 (chE c) W h.reads.1.2 h.reads.1.1 h.reads.2.2 h.reads.2.1 (by rw [impl_ChartOk.f, impl_chartOk.f]; rfl)
theorem chOkS_any (c : Chv) (hs : ChSmall c) (q : Cq) (W : World) (h : CV W c q) : Calls Tryd.prog 6 #[.agg (cA c q)] W fun e W' => e = .returned (.bool (chE c)) ∧ Below W.heap.size W W' := by
 obtain ⟨K, hK⟩ := chOk_is c.1 c.2.1 c.2.2 hs.ok
 exact spec_ChartOk.calls K c.1 q.1.1 q.1.2 c.2.1 q.2.1 q.2.2 c.2.2 (chE c) W h.reads.1.2 h.reads.1.1 h.reads.2.2 h.reads.2.1 (hK K (Nat.le_refl _))
def newM (c : Chv) : Mkv := newR c.1 (chE c)
theorem chNewI_any (c : Chv) (q : Cq) (W : World) (h : CV W c q) : Calls Tryd.prog 8 #[.agg (cA c q)] W fun e W' => ∃ p, e = .returned (.agg (kA (newM c) p)) ∧ KVo W' (Fr W) (newM c) p ∧ Below W.heap.size W W' := by
 refine (impl_ChartNew.calls c.1 q.1.1 q.1.2 c.2.1 q.2.1 q.2.2 c.2.2 (newM c).1 (newM c).2 W h.reads.1.2 h.reads.1.1 h.reads.2.2 h.reads.2.1 (implNew_is _ _ _)).mono ?_
 rintro e W' ⟨v0, v1, rfl, h0, h1, hb⟩
 obtain ⟨A0, c0, rfl⟩ := Kd.R_slice h0
 obtain ⟨A1, c1, rfl⟩ := Kd.R_slice h1
 exact ⟨((A0, c0), (A1, c1)), rfl, ⟨Kd.V_mono (Kd.R_V (Kd.R_bound h0)) fun k hk => hk.2.1, Kd.V_mono (Kd.R_V (Kd.R_bound h1)) fun k hk => hk.2.1⟩, hb⟩
set_option maxRecDepth 100000 in
set_option maxHeartbeats 4000000 in
theorem drawOk8_any (l : List Int) (hw : ∀ x ∈ l, (Lit.int .u8 x).wf = true) (A : Option Addr) (c : Nat) (w0 : World) (hC : Kd.C (Kd.int .u8) w0 A l.length l) (hc : l.length ≤ c) :
  Calls Tryd.prog 4 #[.slice A l.length c] w0 fun e W' => ∃ (x : Chv) (q : Cq), e = .returned (.agg (cA x q)) ∧ (0 ≤ x.1 ∧ x.1 ≤ 7) ∧ ChFit 5 x.2.1 x.2.2 ∧ CV W' x q ∧ Below w0.heap.size w0 W' := by
 have H0 := Aside0.mk (And.intro hC hc)
 clear hC hc
 go_enter Tryd.func4, Tryd.ntmps4
 go_wp2_with ((with_reducible refine gate_dst (N := 2) rfl ?_); refine boxNew_ rfl rfl zCh 26 ?hr ?_; (case hr => (go_simp; first | done | rfl)); intro g2 w1 hg2' b2 hb1; have hg2 := Nat.le_of_eq hg2'.symm; clear hg2')
 have sg2 := blk_lt b2
 refine (open_dr l hw A c H0.out.1 H0.out.2 hb1).mono ?_
 rintro e w2 ⟨g, s, rfl, hA, hb, hne⟩
 have n2 : g2 ≠ g := hne g2 _ _ (blk_below b2 hb) (by decide)
 have sg := hA.lt
 have hs2 := hb.size
 have H1 := Aside0.mk (show At w0 w2 g s (100 + 20000000) w2 ∧ Box w2 g2 26 zCh from ⟨At.less hA (by omega), blk_below b2 hb⟩)
 clear hA b2 hb hne hb1 H0
 go_wp2_with fail
 refine (chBent_fr H1.out.1).mono ?_
 rintro e w3 ⟨sI, lw, A1, c1, m, A2, c2, KT, KA, rfl, hS, hF, kt, ka, _, hN, hM, hA, hk⟩
 have lb2 := Box.keep H1.out.2 hk n2
 have HF := Aside0.mk (show (0 ≤ sI ∧ sI ≤ 7) ∧ ChFit 5 lw m ∧ Kd.N k37 37 w3 w2.heap.size KT (.slice A1 lw.length c1) lw ∧ Kd.N k39 39 w3 w2.heap.size KA (.slice A2 m.length c2) m ∧ At w0 w2 g s 100 w3 from ⟨hS, hF, hN, hM, hA⟩)
 have hww : w0.heap.size ≤ g2 := hg2
 clear hS hF hN hM hA H1 hk
 go_wp2_with ((with_reducible refine gate_store (t := 26) (p := 2) rfl ?_); refine boxPut_ rfl rfl rfl rfl (chC sI lw.length A1 c1 m.length A2 c2) (by rfl) lb2 rfl (by kernel_rfl) (by simp [Value.oneCell']) ?_; intro w9 hbx hput)
 refine bodyPost_ret (results_cell_row rfl _ _ g2 26 (chC sI lw.length A1 c1 m.length A2 c2) (0, 0) _ rfl hbx Tryd.underlying26 rfl (by kernel_rfl)) rfl ?_
 refine ⟨(sI, lw, m), ((A1, c1), (A2, c2)), rfl, HF.out.1, HF.out.2.1, ⟨Kd.V_mono (Kd.V_step (Kd.N_V HF.out.2.2.1) fun k hk _ => hput.far k (by have := kt k hk; omega)) fun _ _ => trivial, Kd.V_mono (Kd.V_step (Kd.N_V HF.out.2.2.2.1) fun k hk _ => hput.far k (by have := ka k hk; omega)) fun _ _ => trivial⟩, hput.below HF.out.2.2.2.2.b hww⟩
end Go.Proofs.YtfmipdhkiahjoaaDoor.B
