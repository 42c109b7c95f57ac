/- What reads as data is of a kind: from 'DataW.trod' to 'Kd.K'. -/
import Derived.Test.YtddnijmgipffeaaDoorB0
import Derived.ProofKit
namespace Go.Proofs.YtddnijmgipffeaaDoor.B
open Go.RowKit Go.Proofs.YtddnijmgipffeaaDoorW.PrintWords Go.Proofs.YtddnijmgipffeaaDoorW.PrintLast Go.Proofs.YtddnijmgipffeaaDoorW.PrintMore
set_option linter.unusedVariables false

theorem addr_add_add (a : Addr) (m i : Nat) : (a.add m).add i = a.add (m + i) := by
  unfold Addr.add
  by_cases h1 : m = 0 <;> by_cases h2 : i = 0 <;> simp [h1, h2, Nat.add_assoc]

section
variable {H : Type} {enc : TypeId × Value → H} {P : Program} {w : World}

/-- Cells of type t that read as data with that much fuel are of kind d. -/
def Opens {α : Type} (enc : TypeId × Value → H) (P : Program) (w : World) (t : TypeId) (d : Kd α) (N : Nat) : Prop :=
  P.cellsOf t = d.sz ∧ ∀ fuel cs x, fuel ≤ N → DataW.trod enc P w 0 (fun _ => true) true fuel t cs = some x → ∃ a, d.K w a cs
theorem Opens.less {α : Type} {t : TypeId} {d : Kd α} {N N' : Nat} (h : Opens enc P w t d N) (hN : N' ≤ N) : Opens enc P w t d N' := ⟨h.1, fun fuel cs x hf ht => h.2 fuel cs x (Nat.le_trans hf hN) ht⟩

theorem opens_int {t : TypeId} {k : IntKind} (ht : P.underlying t = some (.int k)) (hc : P.cellsOf t = 1) (N : Nat) : Opens enc P w t (Kd.int k) N :=
  ⟨hc, fun fuel cs x _ h => by obtain ⟨n, rfl, _, _⟩ := DataW.trod_int ht h; exact ⟨n, rfl⟩⟩
theorem opens_bool {t : TypeId} (ht : P.underlying t = some .bool) (hc : P.cellsOf t = 1) (N : Nat) : Opens enc P w t Kd.bool N :=
  ⟨hc, fun fuel cs x _ h => by obtain ⟨n, rfl, _⟩ := DataW.trod_bool ht h; exact ⟨n, rfl⟩⟩
theorem opens_slice {α : Type} {t e : TypeId} {d : Kd α} (ht : P.underlying t = some (.slice e)) (hc : P.cellsOf t = 1) {N : Nat} (h : Opens enc P w e d N) : Opens enc P w t (Kd.slice e d) (N + 1) := by
  refine ⟨hc, fun fuel cs x hf hx => ?_⟩
  rcases DataW.trod_slice ht hx with ⟨rfl, _⟩ | ⟨a, len, cap, elems, rest, n, rfl, rfl, _, _, hl, hm, hlen, hel, _, _⟩
  · exact ⟨[], none, 0, rfl, Nat.le_refl _, rfl, by simp, fun h => absurd h (by simp)⟩
  · have hall : ∀ i, i < len → ∃ c y, w.cells? 0 (a.add (i * P.cellsOf e)) (P.cellsOf e) = some c ∧ d.K w y c := by
      intro i hi
      have hi' := hel i hi
      rw [List.getElem?_eq_getElem (by omega)] at hi'
      obtain ⟨c, hc1, hc2⟩ := Option.bind_eq_some_iff.1 hi'
      obtain ⟨y, hy⟩ := h.2 n c _ (by omega) hc2
      exact ⟨c, y, hc1, hy⟩
    have hlist : ∀ m, m ≤ len → ∃ l : List α, l.length = m ∧ ∀ j p, l[j]? = some p → ∃ c, w.cells? 0 (a.add (j * P.cellsOf e)) (P.cellsOf e) = some c ∧ d.K w p c := by
      intro m
      induction m with
      | zero => intro _; exact ⟨[], rfl, fun j p hj => by simp at hj⟩
      | succ m ih =>
        intro hm'
        obtain ⟨l, hll, hlc⟩ := ih (by omega)
        obtain ⟨c, y, h1, h2⟩ := hall m (by omega)
        refine ⟨l ++ [y], by simp [hll], fun j p hj => ?_⟩
        by_cases hj' : j < l.length
        · rw [List.getElem?_append_left hj'] at hj
          exact hlc j p hj
        · have hjl := (List.getElem?_eq_some_iff.1 hj).1
          simp at hjl
          obtain rfl : j = m := by omega
          rw [List.getElem?_append_right (by omega)] at hj
          obtain rfl : y = p := by simpa [hll] using hj
          exact ⟨c, h1, h2⟩
    obtain ⟨l, hll, hlc⟩ := hlist len (Nat.le_refl _)
    refine ⟨l, some a, cap, by rw [hll], by omega, rfl, by unfold maxLen at hm; omega, fun _ => ⟨a, rfl, fun j p hj => ?_⟩⟩
    obtain ⟨c, h1, h2⟩ := hlc j p hj
    refine ⟨c, d.K_len h2, h2, fun i u hu => ?_⟩
    have h3 := (World.cells?_some h1).2.2 i (by have := (List.getElem?_eq_some_iff.1 hu).1; rw [← (World.cells?_some h1).2.1]; exact this)
    rw [h.1] at h3
    rw [hu] at h3
    rw [← h3, addr_add_add]

/-- The fields from the one that begins at o on. -/
def FieldsAt {α : Type} (enc : TypeId × Value → H) (P : Program) (w : World) (fs : List Field) (o : Nat) (d : Kd α) (N : Nat) : Prop :=
  ∀ (n : Nat) (cs : List Value) (xs : List (DataW H × List MemPlace)), n ≤ N → (∀ (i : Nat) (f : Field), fs[i]? = some f → DataW.trod enc P w 0 (fun _ => true) true n f.type ((cs.drop f.offset).take (P.cellsOf f.type)) = xs[i]?) → xs.length = fs.length → cs.length = o + d.sz → ∃ a, d.K w a (cs.drop o)
theorem fields_one {α : Type} {f : Field} {o : Nat} {d : Kd α} {N : Nat} (hf : f.offset = o) (h : Opens enc P w f.type d N) : FieldsAt enc P w [f] o d N := by
  intro n cs xs hn hx hl hc
  have h0 := hx 0 f rfl
  rw [List.getElem?_eq_getElem (by simp at hl; omega), hf, h.1, List.take_of_length_le (by simp; omega)] at h0
  exact h.2 n _ _ hn h0
theorem fields_cons {α β : Type} {f : Field} {fs : List Field} {o : Nat} {d : Kd α} {ds : Kd β} {N : Nat} (hf : f.offset = o) (h : Opens enc P w f.type d N) (hs : FieldsAt enc P w fs (o + d.sz) ds N) : FieldsAt enc P w (f :: fs) o (Kd.pair d ds) N := by
  intro n cs xs hn hx hl hc
  have hc' : cs.length = o + (d.sz + ds.sz) := hc
  cases xs with
  | nil => simp at hl
  | cons x xs =>
    have h0 := hx 0 f rfl
    rw [hf, h.1] at h0
    obtain ⟨a, ha⟩ := h.2 n _ x hn (by simpa using h0)
    obtain ⟨b, hb⟩ := hs n cs xs hn (fun i g hg => by have := hx (i + 1) g (by simpa using hg); simpa using this) (by simpa using hl) (by omega)
    refine ⟨(a, b), (cs.drop o).take d.sz, cs.drop (o + d.sz), ?_, ha, hb⟩
    rw [← List.drop_drop, List.take_append_drop]
theorem opens_struct {α : Type} {t : TypeId} {fs : List Field} {d : Kd α} {N : Nat} (ht : P.underlying t = some (.struct fs.toArray)) (hc : P.cellsOf t = d.sz) (h : FieldsAt enc P w fs 0 d N) : Opens enc P w t d (N + 1) := by
  refine ⟨hc, fun fuel cs x hf hx => ?_⟩
  obtain ⟨xs, n, rfl, _, hl, hxl, hall⟩ := DataW.trod_struct ht hx
  obtain ⟨a, ha⟩ := h n cs xs (by omega) (fun i f hi => hall i f (by simpa using hi)) (by simpa using hxl) (by omega)
  exact ⟨a, by simpa using ha⟩
theorem opens_iso {α β : Type} {t : TypeId} {d : Kd α} {f : β → α} {N : Nat} (g : α → β) (hg : ∀ a, f (g a) = a) (h : Opens enc P w t d N) : Opens enc P w t (Kd.iso d f) N :=
  ⟨h.1, fun fuel cs x hf hx => by obtain ⟨a, ha⟩ := h.2 fuel cs x hf hx; exact ⟨g a, by show d.K w (f (g a)) cs; rw [hg]; exact ha⟩⟩
end

section
variable {H : Type} (enc : TypeId × Value → H) (w : World)
theorem opens_lAddr (N : Nat) : Opens enc Tryd.prog w 35 k35 N :=
  Opens.less (N := N + 1) (opens_iso (fun a => ⟨a.1, a.2⟩) (fun _ => rfl) (opens_struct Tryd.underlying35 (by kernel_rfl)
    (fields_cons rfl (opens_int Tryd.underlying3 (by kernel_rfl) _) (fields_one rfl (opens_int Tryd.underlying3 (by kernel_rfl) _))))) (Nat.le_succ _)
end
end Go.Proofs.YtddnijmgipffeaaDoor.B
