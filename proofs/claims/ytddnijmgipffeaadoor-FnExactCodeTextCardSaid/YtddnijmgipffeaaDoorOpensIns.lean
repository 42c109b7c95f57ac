/- Instructions of the laws: what reads as data is of a kind, and each number in it is one of 64 bits. -/
import Derived.Test.YtddnijmgipffeaaDoorOpens
namespace Go.Proofs.YtddnijmgipffeaaDoor.B
open Go Go.RowKit Go.Proofs.YtddnijmgipffeaaDoorW.PrintWords Go.Proofs.YtddnijmgipffeaaDoorW.PrintLast Go.Proofs.YtddnijmgipffeaaDoorW.PrintMore
set_option linter.unusedVariables false
/-- A kind whose values are such. -/
def kdSuch {α : Type} (d : Kd α) (R : α → Prop) : Kd α where
  sz := d.sz
  E := d.E
  K := fun w x cs => d.K w x cs ∧ R x
  M := fun w base ok x cs => d.M w base ok x cs ∧ R x
  K_len := fun h => d.K_len h.1
  K_one := fun h => d.K_one h.1
  K_below := fun hb h => ⟨d.K_below hb h.1, h.2⟩
  K_of_M := fun h => ⟨d.K_of_M h.1, h.2⟩
  M_mono := fun ho h => ⟨d.M_mono ho h.1, h.2⟩
  M_bound := fun h => ⟨d.M_bound h.1, h.2⟩
  M_move := fun hm h => ⟨d.M_move hm h.1, h.2⟩
  M_lower := fun hl h => ⟨d.M_lower hl h.1, h.2⟩
def in64 (n : Int) : Prop := -9223372036854775808 ≤ n ∧ n ≤ 9223372036854775807
def intR : Kd Int := kdSuch (Kd.int .i64) in64
section
variable {H : Type} {enc : TypeId × Value → H} {P : Program} {w : World}
theorem opens_intR {t : TypeId} (ht : P.underlying t = some (.int .i64)) (hc : P.cellsOf t = 1) (N : Nat) : Opens enc P w t intR N :=
  ⟨hc, fun fuel cs x _ h => by
    obtain ⟨n, rfl, _, hw⟩ := DataW.trod_int ht h
    refine ⟨n, rfl, ?_⟩
    simpa [Lit.wf, in64, IntKind.min, IntKind.max, IntKind.signed, IntKind.bits] using hw⟩
end
abbrev LInsC := S37
/-- An instruction whose number is one of 64 bits. -/
def kInsR : Kd LInsC := Kd.iso (Kd.pair (Kd.int .i64) (Kd.pair intR k35)) (fun x : LInsC => (x.f0, x.f1, x.f2))
theorem kInsR_open {w : World} {x : LInsC} {cs : List Value} (h : kInsR.K w x cs) : k37.K w x cs ∧ in64 x.f1 := by
  obtain ⟨c1, c2, e1, h1, c3, c4, e2, h2, h3⟩ := h
  exact ⟨⟨c1, c2, e1, h1, c3, c4, e2, h2.1, h3⟩, h2.2⟩
theorem insR_C {w : World} {A : Option Addr} {n : Nat} {l : List LInsC} (h : kInsR.C w A n l) : k37.C w A n l ∧ (∀ x ∈ l, in64 x.f1) := by
  obtain ⟨h1, h2, h3⟩ := h
  refine ⟨⟨h1, h2, fun hn => ?_⟩, fun x hx => ?_⟩
  · obtain ⟨a, ha, hl⟩ := h3 hn
    refine ⟨a, ha, fun j p hj => ?_⟩
    obtain ⟨c, hlen, hk, hc⟩ := hl j p hj
    exact ⟨c, hlen, (kInsR_open hk).1, hc⟩
  · obtain ⟨j, hj, rfl⟩ := List.mem_iff_getElem.1 hx
    obtain ⟨a, ha, hl⟩ := h3 (by omega)
    obtain ⟨c, hlen, hk, hc⟩ := hl j _ (List.getElem?_eq_getElem hj)
    exact (kInsR_open hk).2
section
variable {H : Type} (enc : TypeId × Value → H) (w : World)
theorem opens_lIns (N : Nat) : Opens enc Tryd.prog w 37 kInsR N :=
  Opens.less (N := N + 1) (opens_iso (fun a => ⟨a.1, a.2.1, a.2.2⟩) (fun _ => rfl) (opens_struct Tryd.underlying37 (by kernel_rfl)
    (fields_cons rfl (opens_int Tryd.underlying3 (by kernel_rfl) _) (fields_cons rfl (opens_intR Tryd.underlying3 (by kernel_rfl) _) (fields_one rfl (opens_lAddr enc w _)))))) (Nat.le_succ _)
theorem opens_lInss (N : Nat) : Opens enc Tryd.prog w 22 (Kd.slice 37 kInsR) N :=
  Opens.less (N := N + 1) (opens_slice Tryd.underlying22 (by kernel_rfl) (opens_lIns enc w _)) (Nat.le_succ _)
end
end Go.Proofs.YtddnijmgipffeaaDoor.B
