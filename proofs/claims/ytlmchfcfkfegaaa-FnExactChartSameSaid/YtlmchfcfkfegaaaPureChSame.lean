/- The pure law of ChartSame. -/
import Derived.Test.YtlmchfcfkfegaaaChSpec
import Derived.Test.YtlmchfcfkfegaaaOpensCh
import Derived.Test.YtlmchfcfkfegaaaF3
namespace Go.Proofs.Ytlmchfcfkfegaaa.B
open Go.RowKit Go.Proofs.YtlmchfcfkfegaaaW.PrintWords Go.Proofs.YtlmchfcfkfegaaaW.PrintLast Go.Proofs.YtlmchfcfkfegaaaW.PrintMore
set_option linter.unusedVariables false
/-- What is left behind two parts: both are of bounded bulk, or the law says true at once. -/
theorem two_parts {f : Nat → Option Int} {g : Nat → Int → Option Int} {body : Nat → Option Bool} {n n' : Nat} (hf : Ends f (szV n 1048576)) (hg : ∀ m, Left m → Ends (fun k => g k m) (szV n' m)) (hb : n ≤ 1048576 → n' ≤ 1048576 → Ends body true) :
  Ends (fun k => (f k).bind fun t => if t < 0 then some true else (g k t).bind fun t => if t < 0 then some true else body k) true := by
 refine hf.bind (g := fun k t => if t < 0 then some true else (g k t).bind fun t => if t < 0 then some true else body k) ?_
 by_cases h : szV n 1048576 < 0
 ·exact Ends.const fun k => by rw [if_pos h]
 ·obtain ⟨hL, hn, _⟩ := szV_left ⟨by omega, by omega⟩ h
  refine ((hg _ hL).bind (g := fun k t => if t < 0 then some true else body k) ?_).of fun k => by rw [if_neg h]
  by_cases h' : szV n' (szV n 1048576) < 0
  ·exact Ends.const fun k => by rw [if_pos h']
  ·obtain ⟨hL', hn', _⟩ := szV_left hL h'
   exact (hb (by omega) (by have := hL.2; omega)).of fun k => by rw [if_neg h']
theorem pure_ChartSame (s : Int) (a : List LTr) (b : List LAc) (s' : Int) (a' : List LTr) (b' : List LAc) (h1 : a.length ≤ 9223372036854775807) (h2 : ∀ x ∈ a, trOk x) (h3 : b.length ≤ 9223372036854775807) (h1' : a'.length ≤ 9223372036854775807) (h2' : ∀ x ∈ a', trOk x) (h3' : b'.length ≤ 9223372036854775807) :
  ∃ k, laws_FnExactChartSame.f k s a b s' a' b' = some true := by
 have : Ends (fun k => laws_FnExactChartSame.f k s a b s' a' b') true := by
  refine (two_parts (g := fun k t => laws_szChart.f k s' a' b' t) (szCh s a b h1 h2 h3 1048576 ⟨by omega, by omega⟩) (fun m hm => szCh s' a' b' h1' h2' h3' m hm) (fun hn hn' => ?_)).of fun k => by rw [laws_FnExactChartSame.f]
  have ht := toCh s a b hn
  have ht' := toCh s' a' b' hn'
  have ho := chTo_ok a b hn
  have ho' := chTo_ok a' b' hn'
  refine ht.bind (ht'.bind ((chSame_is s _ _ s' (a'.map trTo) (b'.map acTo) ho).bind (ht.bind (ht'.bind ?_))))
  refine Ends.of (g := fun k => (laws_toChart.f k s a b).bind fun x => (laws_eqChart.f k s (a.map trTo) (b.map acTo) x.1 x.2.1 x.2.2).bind fun t => if t = true then (laws_toChart.f k s' a' b').bind fun y => (laws_eqChart.f k s' (a'.map trTo) (b'.map acTo) y.1 y.2.1 y.2.2).bind fun t => if t = true then some true else some false else some false) ?_ (fun k => by rw [impl_ChartSame.f, Option.bind_some, if_neg (by simp)])
  refine ht.bind ((eqCh s _ _ ho).bind ?_)
  refine Ends.of (g := fun k => (laws_toChart.f k s' a' b').bind fun y => (laws_eqChart.f k s' (a'.map trTo) (b'.map acTo) y.1 y.2.1 y.2.2).bind fun t => if t = true then some true else some false) ?_ (fun k => by rw [if_pos rfl])
  exact ht'.bind ((eqCh s' _ _ ho').bind (Ends.const fun k => rfl))
 obtain ⟨K, hK⟩ := this
 exact ⟨K, hK K (Nat.le_refl _)⟩
theorem law_ChartSame (x : S25) (A1 : Option Addr) (c1 : Nat) (A2 : Option Addr) (c2 : Nat) (y : S25) (B1 : Option Addr) (d1 : Nat) (B2 : Option Addr) (d2 : Nat) (W : World) (g1 : k151.C W A1 x.f1.length x.f1) (l1 : x.f1.length ≤ c1) (g2 : k155.C W A2 x.f2.length x.f2) (l2 : x.f2.length ≤ c2) (h1 : k151.C W B1 y.f1.length y.f1) (m1 : y.f1.length ≤ d1) (h2 : k155.C W B2 y.f2.length y.f2) (m2 : y.f2.length ≤ d2) :
  Calls Try.prog 3 #[.agg #[.int .i64 x.f0, .slice A1 x.f1.length c1, .slice A2 x.f2.length c2], .agg #[.int .i64 y.f0, .slice B1 y.f1.length d1, .slice B2 y.f2.length d2]] W fun e W' => e = .returned (.bool true) ∧ Below W.heap.size W W' := by
 obtain ⟨p1, p2⟩ := trsOk_of g1
 obtain ⟨q1, q2⟩ := trsOk_of h1
 obtain ⟨k, hk⟩ := pure_ChartSame x.f0 x.f1 x.f2 y.f0 y.f1 y.f2 p1 p2 (acsOk_of g2) q1 q2 (acsOk_of h2)
 exact laws_FnExactChartSame.calls k x.f0 A1 c1 x.f1 A2 c2 x.f2 y.f0 B1 d1 y.f1 B2 d2 y.f2 true W g1 l1 g2 l2 h1 m1 h2 m2 hk
end Go.Proofs.Ytlmchfcfkfegaaa.B
