/- Trees and memories as values that are only read, and the functions over them. -/
import Derived.Test.YtiofkhfmdophpaaWeaveBox
import Derived.Test.YtiofkhfmdophpaaWq
import Derived.Test.YtiofkhfmdophpaaPkB
import Derived.Test.YtiofkhfmdophpaaPkC
import Derived.Test.YtiofkhfmdophpaaPkA
namespace Go.Proofs.Ytiofkhfmdophpaa.B
open Go Go.RowKit Go.Proofs.YtiofkhfmdophpaaW.PrintWords Go.Proofs.YtiofkhfmdophpaaW.PrintLast Go.Proofs.YtiofkhfmdophpaaW.PrintMore
set_option linter.unusedVariables false

/-- A tree's cells, a memory's cells. -/
def eA (x : Ex) (A : Option Addr) (c : Nat) : Array Value := #[.int .i64 x.f0, .int .i64 x.f1, .int .i64 x.f2.f0, .int .i64 x.f2.f1, .slice A x.f3.length c]
def mA (m : List Int × List Int × List Int) (p : (Option Addr × Nat) × (Option Addr × Nat) × (Option Addr × Nat)) : Array Value := #[.slice p.1.1 m.1.length p.1.2, .slice p.2.1.1 m.2.1.length p.2.1.2, .slice p.2.2.1 m.2.2.length p.2.2.2]
def eZ : Array Value := #[.int .i64 0, .int .i64 0, .int .i64 0, .int .i64 0, .slice none 0 0]
def mZ : Array Value := #[.slice none 0 0, .slice none 0 0, .slice none 0 0]
theorem eA_one (x : Ex) (A : Option Addr) (c : Nat) : (eA x A c).all (·.oneCell') = true := by simp [eA, Value.oneCell']
theorem mA_one (m : List Int × List Int × List Int) (p : (Option Addr × Nat) × (Option Addr × Nat) × (Option Addr × Nat)) : (mA m p).all (·.oneCell') = true := by simp [mA, Value.oneCell']
theorem get_eA {W : World} {g : Nat} {x : Ex} {A : Option Addr} {c : Nat} (h : Box W g 32 (eA x A c)) : (Instr.loadAt 32 (.pointer (some ⟨g, 0, none⟩))).run Try.prog W = .ok (.agg (eA x A c)) W := run_get h Try.underlying32 rfl (by kernel_rfl)
theorem get_mA {W : World} {g : Nat} {m : List Int × List Int × List Int} {p : (Option Addr × Nat) × (Option Addr × Nat) × (Option Addr × Nat)} (h : Box W g 44 (mA m p)) : (Instr.loadAt 44 (.pointer (some ⟨g, 0, none⟩))).run Try.prog W = .ok (.agg (mA m p)) W := run_get h Try.underlying44 rfl (by kernel_rfl)
section
variable {ops : Array Oper} {rest : List Oper} {o : Oper} {a : Act} {Q : Exit → Act → World → Prop} {W : World}
theorem getE_ {N q : Tmp} {g : Nat} {x : Ex} {A : Option Addr} {c : Nat} (ho : o.op = .load 32 (.tmp q)) (hd : o.dst = some N) (hg : o.guard = none) (hx : a.eval (.tmp q) = .pointer (some ⟨g, 0, none⟩)) (hb : Box W g 32 (eA x A c))
  (h : wpList Try.prog ops Q rest (a.put (some N) (.agg (eA x A c))) W) : wpList Try.prog ops Q (o :: rest) a W := boxGet_ ho hd hg hx hb Try.underlying32 rfl (by kernel_rfl) h
theorem getM_ {N q : Tmp} {g : Nat} {m : List Int × List Int × List Int} {p : (Option Addr × Nat) × (Option Addr × Nat) × (Option Addr × Nat)} (ho : o.op = .load 44 (.tmp q)) (hd : o.dst = some N) (hg : o.guard = none) (hx : a.eval (.tmp q) = .pointer (some ⟨g, 0, none⟩)) (hb : Box W g 44 (mA m p))
  (h : wpList Try.prog ops Q rest (a.put (some N) (.agg (mA m p))) W) : wpList Try.prog ops Q (o :: rest) a W := boxGet_ ho hd hg hx hb Try.underlying44 rfl (by kernel_rfl) h
end
structure TVo (W : World) (ok : Nat → Prop) (x : Ex) (A : Option Addr) (c : Nat) : Prop where
 v : Kd.V k32 32 W 0 ok (.slice A x.f3.length c) x.f3
abbrev TV (W : World) (x : Ex) (A : Option Addr) (c : Nat) : Prop := TVo W (fun _ => True) x A c
theorem TV.ofN {W : World} {x : Ex} {B : Option Addr} {d base : Nat} {ok ok' : Nat → Prop} (h : Kd.N k32 32 W base ok (.slice B x.f3.length d) x.f3) (hok : ∀ k, ok k → ok' k) : TVo W ok' x B d := ⟨Kd.V_mono (Kd.N_V (base' := 0) h) hok⟩
theorem TV.last (x : Ex) (A : Option Addr) (c : Nat) : Lasts fun W => TV W x A c := fun _ _ hb h => ⟨Kd.V_below h.v hb⟩
theorem TVo.old {w W : World} {ok : Nat → Prop} {x : Ex} {A : Option Addr} {c : Nat} (h : TV w x A c) (hb : Below w.heap.size w W) (hok : ∀ k, k < w.heap.size → ok k) : TVo W ok x A c := ⟨Kd.V_mono (Kd.V_old h.v hb) fun k hk => hok k hk.2⟩
theorem TVo.all {W : World} {ok : Nat → Prop} {x : Ex} {A : Option Addr} {c : Nat} (h : TVo W ok x A c) : TV W x A c := ⟨Kd.V_mono h.v fun _ _ => trivial⟩
theorem TVo.reads {W : World} {ok : Nat → Prop} {x : Ex} {A : Option Addr} {c : Nat} (h : TVo W ok x A c) : x.f3.length ≤ c ∧ Kd.C k32 W A x.f3.length x.f3 := (Kd.V_reads' h.v).2
/-- A value that is a tree. -/
def treeF (z : Ex) : Value → World → (Nat → Prop) → Prop := fun v W ok => ∃ A c, v = .agg (eA z A c) ∧ TVo W ok z A c
theorem treeF_good (z : Ex) : Good (treeF z) :=
 ⟨fun v ok W W' hb ⟨A, c, h, k⟩ => ⟨A, c, h, ⟨Kd.V_below k.v hb⟩⟩, fun v W ok ok' ho ⟨A, c, h, k⟩ => ⟨A, c, h, ⟨Kd.V_mono k.v ho⟩⟩, fun v W ok ⟨A, c, h, k⟩ => ⟨A, c, h, ⟨Kd.V_bound k.v⟩⟩,
  fun v W W' ok g hp hg ⟨A, c, h, k⟩ => ⟨A, c, h, ⟨Kd.V_step k.v fun j hj _ => hp.far j fun e => hg (e ▸ hj)⟩⟩⟩
def treeW (z : Ex) (v : Value) (W : World) : Prop := ∃ A c, v = .agg (eA z A c) ∧ TV W z A c
theorem treeW_last (z : Ex) (v : Value) : Lasts (treeW z v) := fun W W' hb ⟨A, c, h, k⟩ => ⟨A, c, h, TV.last _ _ _ _ _ hb k⟩
theorem isL_if (b : Bool) : (if b = true then (1 : Int) else 0) = isL b := by cases b <;> rfl
def aggOf : Value → Array Value
 | .agg c => c
 | _ => #[]
theorem treeF_cs (z : Ex) (v : Value) (W : World) (ok : Nat → Prop) (h : treeF z v W ok) : v = .agg (aggOf v) ∧ (aggOf v).size = 5 ∧ (aggOf v).all (·.oneCell') = true := by
 obtain ⟨A, c, rfl, _⟩ := h
 exact ⟨rfl, rfl, eA_one _ _ _⟩
structure MV (W : World) (m : List Int × List Int × List Int) (p : (Option Addr × Nat) × (Option Addr × Nat) × (Option Addr × Nat)) : Prop where
 l0 : m.1.length ≤ p.1.2
 c0 : Kd.C (Kd.int .i64) W p.1.1 m.1.length m.1
 l1 : m.2.1.length ≤ p.2.1.2
 c1 : Kd.C (Kd.int .i64) W p.2.1.1 m.2.1.length m.2.1
 l2 : m.2.2.length ≤ p.2.2.2
 c2 : Kd.C (Kd.int .i64) W p.2.2.1 m.2.2.length m.2.2
theorem MV.last (m : List Int × List Int × List Int) (p : (Option Addr × Nat) × (Option Addr × Nat) × (Option Addr × Nat)) : Lasts fun W => MV W m p := fun _ _ hb h => ⟨h.l0, Kd.C_below h.c0 hb, h.l1, Kd.C_below h.c1 hb, h.l2, Kd.C_below h.c2 hb⟩
def mOk (m : List Int × List Int × List Int) : Bool := memOkL m.1 m.2.1 m.2.2
def oV (x : Ex) (m : List Int × List Int × List Int) : Int := ofV x m.1 m.2.1 m.2.2

theorem wqNot_o (x : Ex) (A : Option Addr) (c : Nat) (W : World) (ok : Nat → Prop) (hok : ∀ k, W.heap.size ≤ k → ok k) (h : TVo W ok x A c) :
  Calls Try.prog 38 #[.agg (eA x A c)] W fun e W' => ∃ y B d, y = n1 x ∧ e = .returned (.agg (eA y B d)) ∧ TVo W' ok y B d ∧ Below W.heap.size W W' := by
 refine (laws_wqNot.calls x.f0 x.f1 x.f2.f0 x.f2.f1 ok A c x.f3 _ _ _ _ _ W (Kd.V_map h.v (fun _ hf => hf)) (wqNot_e x)).mono ?_
 rintro e W' ⟨v, rfl, hN, hb⟩
 obtain ⟨B, d, rfl⟩ := Kd.N_slice hN
 exact ⟨_, B, d, rfl, rfl, TV.ofN hN fun k hk => hk.elim id (hok k), hb⟩
theorem wqTwo_o (k : Int) (x y : Ex) (A : Option Addr) (c : Nat) (A' : Option Addr) (c' : Nat) (W : World) (ok : Nat → Prop) (hok : ∀ k, W.heap.size ≤ k → ok k) (h : TVo W ok x A c) (h' : TVo W ok y A' c') :
  Calls Try.prog 37 #[.int .i64 k, .agg (eA x A c), .agg (eA y A' c')] W fun e W' => ∃ z B d, z = n2 k x y ∧ e = .returned (.agg (eA z B d)) ∧ TVo W' ok z B d ∧ Below W.heap.size W W' := by
 refine (laws_wqTwo.calls k x.f0 x.f1 x.f2.f0 x.f2.f1 ok A c x.f3 y.f0 y.f1 y.f2.f0 y.f2.f1 ok A' c' y.f3 _ _ _ _ _ W (Kd.V_map h.v (fun _ hf => hf)) (Kd.V_map h'.v (fun _ hf => hf)) (wqTwo_ee k x y)).mono ?_
 rintro e W' ⟨v, rfl, hN, hb⟩
 obtain ⟨B, d, rfl⟩ := Kd.N_slice hN
 exact ⟨_, B, d, rfl, rfl, TV.ofN hN fun k hk => hk.elim (fun h => h.elim id id) (hok k), hb⟩
theorem wqNot_any (x : Ex) (A : Option Addr) (c : Nat) (W : World) (h : TV W x A c) :
  Calls Try.prog 38 #[.agg (eA x A c)] W fun e W' => ∃ y B d, y = n1 x ∧ e = .returned (.agg (eA y B d)) ∧ TV W' y B d ∧ Below W.heap.size W W' := wqNot_o x A c W _ (fun _ _ => trivial) h
theorem wqTwo_any (k : Int) (x y : Ex) (A : Option Addr) (c : Nat) (A' : Option Addr) (c' : Nat) (W : World) (h : TV W x A c) (h' : TV W y A' c') :
  Calls Try.prog 37 #[.int .i64 k, .agg (eA x A c), .agg (eA y A' c')] W fun e W' => ∃ z B d, z = n2 k x y ∧ e = .returned (.agg (eA z B d)) ∧ TV W' z B d ∧ Below W.heap.size W W' := wqTwo_o k x y A c A' c' W _ (fun _ _ => trivial) h h'
theorem implOf_any (x : Ex) (A : Option Addr) (c : Nat) (m : List Int × List Int × List Int) (p : (Option Addr × Nat) × (Option Addr × Nat) × (Option Addr × Nat)) (W : World) (h : TV W x A c) (hm : MV W m p) :
  Calls Try.prog 26 #[.agg (eA x A c), .agg (mA m p)] W fun e W' => e = .returned (.int .i64 (oV x m)) ∧ Below W.heap.size W W' :=
 impl_ExprOf.calls x.f0 x.f1 x.f2.f0 x.f2.f1 A c x.f3 _ _ m.1 _ _ m.2.1 _ _ m.2.2 _ W h.reads.2 h.reads.1 hm.c0 hm.l0 hm.c1 hm.l1 hm.c2 hm.l2 (implOf x m.1 m.2.1 m.2.2)
theorem implOk_any (x : Ex) (A : Option Addr) (c : Nat) (W : World) (h : TV W x A c) : Calls Try.prog 18 #[.agg (eA x A c)] W fun e W' => e = .returned (.bool (okE x)) ∧ Below W.heap.size W W' :=
 impl_ExprOk.calls x.f0 x.f1 x.f2.f0 x.f2.f1 A c x.f3 _ W h.reads.2 h.reads.1 (implOk x)
theorem specOf_any (x : Ex) (hs : Short x) (A : Option Addr) (c : Nat) (m : List Int × List Int × List Int) (hn : Mini m.1 m.2.1 m.2.2) (p : (Option Addr × Nat) × (Option Addr × Nat) × (Option Addr × Nat)) (W : World) (h : TV W x A c) (hm : MV W m p) :
  Calls Try.prog 24 #[.agg (eA x A c), .agg (mA m p)] W fun e W' => e = .returned (.int .i64 (oV x m)) ∧ Below W.heap.size W W' := by
 obtain ⟨K, hK⟩ := specOf_ev x hs m.1 m.2.1 m.2.2 hn
 exact spec_ExprOf.calls K x.f0 x.f1 x.f2.f0 x.f2.f1 A c x.f3 _ _ m.1 _ _ m.2.1 _ _ m.2.2 _ W h.reads.2 h.reads.1 hm.c0 hm.l0 hm.c1 hm.l1 hm.c2 hm.l2 (hK K (Nat.le_refl _))
theorem specOk_any (x : Ex) (hs : Short x) (A : Option Addr) (c : Nat) (W : World) (h : TV W x A c) : Calls Try.prog 16 #[.agg (eA x A c)] W fun e W' => e = .returned (.bool (okE x)) ∧ Below W.heap.size W W' := by
 obtain ⟨K, hK⟩ := specOk_ev x hs
 exact spec_ExprOk.calls K x.f0 x.f1 x.f2.f0 x.f2.f1 A c x.f3 _ W h.reads.2 h.reads.1 (hK K (Nat.le_refl _))
theorem specMem_any (m : List Int × List Int × List Int) (hn : Mini m.1 m.2.1 m.2.2) (p : (Option Addr × Nat) × (Option Addr × Nat) × (Option Addr × Nat)) (W : World) (hm : MV W m p) :
  Calls Try.prog 39 #[.agg (mA m p)] W fun e W' => e = .returned (.bool (mOk m)) ∧ Below W.heap.size W W' := by
 obtain ⟨K, hK⟩ := specMem_ev m.1 m.2.1 m.2.2 hn
 exact spec_MemOk.calls K _ _ m.1 _ _ m.2.1 _ _ m.2.2 _ W hm.c0 hm.l0 hm.c1 hm.l1 hm.c2 hm.l2 (hK K (Nat.le_refl _))
theorem drawOf_any (l : List Int) (hw : ∀ x ∈ l, (Lit.int .u8 x).wf = true) : ∃ (x : Ex) (m : List Int × List Int × List Int), Short x ∧ Mini m.1 m.2.1 m.2.2 ∧ ∀ A c W, Kd.C (Kd.int .u8) W A l.length l → l.length ≤ c →
  Calls Try.prog 36 #[.slice A l.length c] W fun e W' => ∃ B d p, e = .returned (.tuple #[.agg (eA x B d), .agg (mA m p)]) ∧ TV W' x B d ∧ MV W' m p ∧ Below W.heap.size W W' := by
 obtain ⟨x, m0, m1, m2, K, hx, hm, h⟩ := drawOf_total l hw
 refine ⟨x, (m0, m1, m2), hx.short, hm, fun A c W hC hc => ?_⟩
 refine (spec_DrawExprOf.calls K A c l _ _ _ _ _ _ _ _ W hC hc (h K (Nat.le_refl _))).mono ?_
 rintro e W' ⟨v, u0, u1, u2, rfl, hN, h0, h1, h2, hb⟩
 obtain ⟨B, d, rfl⟩ := Kd.N_slice hN
 obtain ⟨A0, c0, rfl⟩ := Kd.R_slice h0
 obtain ⟨A1, c1, rfl⟩ := Kd.R_slice h1
 obtain ⟨A2, c2, rfl⟩ := Kd.R_slice h2
 have r0 := Kd.R_reads' h0
 have r1 := Kd.R_reads' h1
 have r2 := Kd.R_reads' h2
 exact ⟨B, d, ((A0, c0), (A1, c1), (A2, c2)), rfl, TV.ofN hN (fun _ _ => trivial), ⟨r0.2.1, r0.2.2, r1.2.1, r1.2.2, r2.2.1, r2.2.2⟩, hb⟩
end Go.Proofs.Ytiofkhfmdophpaa.B
