import Derived.Test.YtfmipdhkiahjoaaDoorB0
import Derived.Test.YtfmipdhkiahjoaaDoorParts
import Derived.Test.YtfmipdhkiahjoaaDoorPkA
import Derived.Laws.BitsLemmas
import Derived.Test.YtfmipdhkiahjoaaDoorJnH
import Derived.Outline
import Derived.Shelf.Abstract
/- A printed function that ends from some fuel on; the loops of the laws' own helpers, once for all types. -/
namespace Go.Proofs.YtfmipdhkiahjoaaDoor.B
open Go.RowKit Go.Proofs.YtfmipdhkiahjoaaDoorW.PrintWords Go.Proofs.YtfmipdhkiahjoaaDoorW.PrintLast Go.Proofs.YtfmipdhkiahjoaaDoorW.PrintMore
set_option linter.unusedVariables false

def Ends {α : Type} (f : Nat → Option α) (r : α) : Prop := ∃ K, ∀ k, K ≤ k → f k = some r
theorem Ends.const {α : Type} {f : Nat → Option α} {r : α} (h : ∀ k, f k = some r) : Ends f r := ⟨0, fun k _ => h k⟩
theorem Ends.bind {α β : Type} {f : Nat → Option α} {g : Nat → α → Option β} {a : α} {r : β} (h : Ends f a) (h' : Ends (fun k => g k a) r) : Ends (fun k => (f k).bind (g k)) r := by
 obtain ⟨K, hK⟩ := h
 obtain ⟨K', hK'⟩ := h'
 exact ⟨max K K', fun k hk => by show (f k).bind (g k) = some r; rw [hK k (by omega), Option.bind_some]; exact hK' k (by omega)⟩
theorem Ends.succ {α : Type} {f g : Nat → Option α} {r : α} (h : ∀ k, f (k + 1) = g k) (hg : Ends g r) : Ends f r := by
 obtain ⟨K, hK⟩ := hg
 exact ⟨K + 1, fun k hk => by obtain ⟨k', rfl⟩ : ∃ k', k = k' + 1 := ⟨k - 1, by omega⟩; rw [h]; exact hK k' (by omega)⟩
theorem Ends.of {α : Type} {f g : Nat → Option α} {r : α} (hg : Ends g r) (h : ∀ k, f k = g k) : Ends f r := by
 obtain ⟨K, hK⟩ := hg
 exact ⟨K, fun k hk => by rw [h]; exact hK k hk⟩
theorem wrap_in {n : Int} (h0 : -9223372036854775808 ≤ n) (h1 : n ≤ 9223372036854775807) : wrap64 n = n := by
 unfold wrap64
 omega
section loops
variable {α β : Type} {rd : List α → Int → α} (hrd : ∀ (l : List α) (j : Nat) (h : j < l.length), rd l (j : Int) = l[j])
include hrd
end loops
end Go.Proofs.YtfmipdhkiahjoaaDoor.B
/- What ExprOk asks of the parts that the iterator yields, in plain words. -/
namespace Go.Proofs.YtfmipdhkiahjoaaDoor.B
open Go.RowKit Go.Proofs.YtfmipdhkiahjoaaDoorW.PrintWords Go.Proofs.YtfmipdhkiahjoaaDoorW.PrintLast Go.Proofs.YtfmipdhkiahjoaaDoorW.PrintMore
set_option linter.unusedVariables false

def partOk (n : Nat) (x : Int × Ex) : Bool := decide (n ≤ 14) && decide (x.1 < 6) && kindOk x.2.f0 && ((x.2.f3.length : Int) == kidsN x.2.f0) && shapeL x.2.f0 x.2.f1 x.2.f2.f0 x.2.f2.f1
def okL : Nat → List (Int × Ex) → Bool
 | _, [] => true
 | n, x :: xs => partOk (n + 1) x && okL (n + 1) xs
theorem okL_snoc (xs : List (Int × Ex)) (x : Int × Ex) : ∀ n, okL n (xs ++ [x]) = (okL n xs && partOk (n + xs.length + 1) x) := by
 induction xs with
 | nil => intro n; simp [okL]
 | cons y ys ih => intro n; simp only [List.cons_append, okL, ih, List.length_cons]; rw [show n + 1 + ys.length + 1 = n + (ys.length + 1) + 1 by omega, Bool.and_assoc]

theorem okL_append (xs ys : List (Int × Ex)) : ∀ n, okL n (xs ++ ys) = (okL n xs && okL (n + xs.length) ys) := by
 induction xs with
 | nil => intro n; simp [okL]
 | cons y zs ih => intro n; simp only [List.cons_append, okL, ih, List.length_cons]; rw [show n + 1 + zs.length = n + (zs.length + 1) by omega, Bool.and_assoc]

theorem walk_le (d : Nat) : ∀ (e : Ex) (acc : List (Int × Ex)), acc.length ≤ 14 → (walkP d e acc).1.length ≤ 15 := by
 induction d with
 | zero => intro e acc h; simp [walkP]; omega
 | succ d ih =>
  intro e acc h
  unfold walkP
  split
  ·simp; omega
  ·rename_i h14
   have hf : ∀ (ks : List Ex) (s : List (Int × Ex) × Bool), s.1.length ≤ 14 → (ks.foldl (fun s k => if s.2 then walkP d k s.1 else s) s).1.length ≤ 15 := by
    intro ks
    induction ks with
    | nil => intro s hs; simp; omega
    | cons k ks ihk =>
     intro s hs
     show (ks.foldl (fun s k => if s.2 then walkP d k s.1 else s) (if s.2 = true then walkP d k s.1 else s)).1.length ≤ 15
     by_cases h2 : s.2 = true
     ·rw [if_pos h2]
      cases hw : (walkP d k s.1).2 with
      | true => exact ihk _ (walk_true d k s.1 hw)
      | false => rw [show walkP d k s.1 = ((walkP d k s.1).1, false) from Prod.ext rfl hw, walk_stop]; exact ih k s.1 hs
     ·rw [if_neg h2]; exact ihk s hs
   exact hf _ _ (by simp at h14 ⊢; omega)
theorem partsL_le (e : Ex) : (partsL e).length ≤ 15 := walk_le 6 e [] (by simp)

end Go.Proofs.YtfmipdhkiahjoaaDoor.B
/- Plain law: what the parts say and what the specification says of an expression are the same. -/
namespace Go.Proofs.YtfmipdhkiahjoaaDoor.B
open Go.RowKit Go.Proofs.YtfmipdhkiahjoaaDoorW.PrintWords Go.Proofs.YtfmipdhkiahjoaaDoorW.PrintLast Go.Proofs.YtfmipdhkiahjoaaDoorW.PrintMore
set_option linter.unusedVariables false

def headOk (e : Ex) : Bool := kindOk e.f0 && ((e.f3.length : Int) == kidsN e.f0) && shapeL e.f0 e.f1 e.f2.f0 e.f2.f1
def formS : Nat → Ex → Bool
 | 0, _ => false
 | d + 1, e => headOk e && e.f3.all (formS d)
def manyS : Nat → Ex → Nat
 | 0, _ => 1
 | d + 1, e => 1 + (e.f3.map (manyS d)).sum
theorem manyS_pos (d : Nat) (e : Ex) : 1 ≤ manyS d e := by cases d <;> simp [manyS]
theorem okL_pre {xs ys : List (Int × Ex)} (h : xs <+: ys) (hx : okL 0 xs = false) : okL 0 ys = false := by
 obtain ⟨zs, rfl⟩ := h
 rw [okL_append, hx]; rfl

/-- What a walk leaves, where all that had come is ok. -/
def WalkOk (r : List (Int × Ex) × Bool) (ok : Bool) (n : Nat) : Prop := okL 0 r.1 = (ok && decide (n ≤ 14)) ∧ (okL 0 r.1 = true → r.2 = true ∧ r.1.length = n)
theorem fold_ok (d : Nat) (ih : ∀ (e : Ex) (acc : List (Int × Ex)), acc.length ≤ 14 → okL 0 acc = true → WalkOk (walkP d e acc) (formS d e) (acc.length + manyS d e)) (ks : List Ex) :
  ∀ acc : List (Int × Ex), acc.length ≤ 14 → okL 0 acc = true → WalkOk (ks.foldl (fun s k => if s.2 then walkP d k s.1 else s) (acc, true)) (ks.all (formS d)) (acc.length + (ks.map (manyS d)).sum) := by
 induction ks with
 | nil => intro acc h1 h2; exact ⟨by simp [h2, h1], fun _ => ⟨rfl, by simp⟩⟩
 | cons k ks ihk =>
  intro acc h1 h2
  have hw := ih k acc h1 h2
  show WalkOk (ks.foldl (fun s k => if s.2 then walkP d k s.1 else s) (walkP d k acc)) _ _
  by_cases hr : okL 0 (walkP d k acc).1 = true
  ·obtain ⟨hr2, hlen⟩ := hw.2 hr
   have hf : formS d k = true ∧ acc.length + manyS d k ≤ 14 := by have := hw.1; rw [hr] at this; simpa using this.symm
   have h3 := ihk (walkP d k acc).1 (by omega) hr
   rw [show walkP d k acc = ((walkP d k acc).1, true) from Prod.ext rfl hr2]
   rw [hlen] at h3
   rw [List.all_cons, hf.1, Bool.true_and, List.map_cons, List.sum_cons, ← Nat.add_assoc]
   exact h3
  ·have hr' : okL 0 (walkP d k acc).1 = false := by simpa using hr
   have hz : okL 0 (ks.foldl (fun s k => if s.2 then walkP d k s.1 else s) (walkP d k acc)).1 = false := okL_pre (fold_pre d ks _) hr'
   refine ⟨?_, fun h => by rw [hz] at h; cases h⟩
   rw [hz]
   have hw1 := hw.1
   rw [hr'] at hw1
   cases hfk : formS d k with
   | false => simp [hfk]
   | true =>
    have : ¬ (acc.length + manyS d k ≤ 14) := by rw [hfk] at hw1; simpa using hw1
    symm
    rw [Bool.and_eq_false_iff]
    right
    simp
    omega
theorem walk_ok (d : Nat) : d ≤ 6 → ∀ (e : Ex) (acc : List (Int × Ex)), acc.length ≤ 14 → okL 0 acc = true → WalkOk (walkP d e acc) (formS d e) (acc.length + manyS d e) := by
 induction d with
 | zero =>
  intro _ e acc h1 h2
  have : okL 0 (walkP 0 e acc).1 = false := by simp [walkP, okL_snoc, partOk]
  exact ⟨by rw [this]; simp [formS], fun h => by rw [this] at h; cases h⟩
 | succ d ih =>
  intro hd e acc h1 h2
  have hp : partOk (acc.length + 1) ((5 : Int) - d, e) = (decide (acc.length + 1 ≤ 14) && headOk e) := by
   simp only [partOk, headOk, decide_eq_true (show (5 : Int) - d < 6 by omega), Bool.and_true, Bool.and_assoc]
  have hs : okL 0 (acc ++ [((5 : Int) - d, e)]) = (decide (acc.length + 1 ≤ 14) && headOk e) := by rw [okL_snoc, h2, Nat.zero_add, hp]; rfl
  by_cases h14 : (acc ++ [((5 : Int) - d, e)]).length > 14
  ·have h13 : decide (acc.length + 1 ≤ 14) = false := by simp at h14 ⊢; omega
   have : okL 0 (walkP (d + 1) e acc).1 = false := by rw [walkP, if_pos h14]; rw [hs, h13]; rfl
   refine ⟨?_, fun h => by rw [this] at h; cases h⟩
   rw [this]
   have := manyS_pos (d + 1) e
   symm; rw [Bool.and_eq_false_iff]; right
   simp at h14 ⊢; omega
  ·have h13 : acc.length + 1 ≤ 14 := by simp at h14; omega
   have hwk : walkP (d + 1) e acc = e.f3.foldl (fun s k => if s.2 then walkP d k s.1 else s) (acc ++ [((5 : Int) - d, e)], true) := by rw [walkP, if_neg h14]
   rw [decide_eq_true h13, Bool.true_and] at hs
   rw [hwk]
   cases hh : headOk e with
   | false =>
    rw [hh] at hs
    have hz := okL_pre (fold_pre d e.f3 (acc ++ [((5 : Int) - d, e)], true)) hs
    refine ⟨?_, fun h => by rw [hz] at h; cases h⟩
    rw [hz]; simp [formS, hh]
   | true =>
    rw [hh] at hs
    have := fold_ok d (ih (by omega)) e.f3 (acc ++ [((5 : Int) - d, e)]) (by simp; omega) hs
    simp only [List.length_append, List.length_cons, List.length_nil] at this
    simp only [formS, hh, Bool.true_and, manyS]
    rw [show acc.length + (1 + (e.f3.map (manyS d)).sum) = acc.length + (0 + 1) + (e.f3.map (manyS d)).sum by omega]
    exact this
theorem okL_eq (e : Ex) : okL 0 (partsL e) = (formS 6 e && decide (manyS 6 e ≤ 14)) := by
 have := (walk_ok 6 (Nat.le_refl _) e [] (by simp) rfl).1
 simpa [partsL] using this
end Go.Proofs.YtfmipdhkiahjoaaDoor.B
/- The draws' pick ends, and is in its bounds. -/
namespace Go.Proofs.YtfmipdhkiahjoaaDoor.B
open Go.RowKit Go.Proofs.YtfmipdhkiahjoaaDoorW.PrintWords Go.Proofs.YtfmipdhkiahjoaaDoorW.PrintLast Go.Proofs.YtfmipdhkiahjoaaDoorW.PrintMore
set_option linter.unusedVariables false

theorem wrap_id {n : Int} (h0 : -9223372036854775808 ≤ n) (h1 : n ≤ 9223372036854775807) : wrap64 n = n := by
 unfold wrap64
 omega
theorem xor_nonneg (a b : Int) (ha : 0 ≤ a) (ha1 : a < 2 ^ 62) (hb : 0 ≤ b) (hb1 : b < 2 ^ 62) : 0 ≤ Go.bits .xor .i64 a b := by
 obtain ⟨m, rfl⟩ := Int.eq_ofNat_of_zero_le ha
 obtain ⟨n, rfl⟩ := Int.eq_ofNat_of_zero_le hb
 have hm : m < 2 ^ 62 := by omega
 have hn : n < 2 ^ 62 := by omega
 have hx := Nat.xor_lt_two_pow hm hn
 have ha' : m % 2 ^ 64 = m := Nat.mod_eq_of_lt (by omega)
 have hb' : n % 2 ^ 64 = n := Nat.mod_eq_of_lt (by omega)
 have hq : (BitVec.ofNat 64 m ^^^ BitVec.ofNat 64 n).toNat = m ^^^ n := by rw [BitVec.toNat_xor, BitVec.toNat_ofNat, BitVec.toNat_ofNat, ha', hb']
 show 0 ≤ IntKind.i64.wrap (((BitVec.ofInt 64 (m : Int)) ^^^ (BitVec.ofInt 64 (n : Int))).toNat : Int)
 rw [BitVec.ofInt_natCast, BitVec.ofInt_natCast, hq, IntKind.wrap_i64]
 omega
theorem tmod_in (a n : Int) (ha : 0 ≤ a) (hn : 1 ≤ n) : 0 ≤ Int.tmod a n ∧ Int.tmod a n < n := by
 rw [Int.tmod_eq_emod_of_nonneg ha]
 exact ⟨Int.emod_nonneg _ (by omega), Int.emod_lt_of_pos _ (by omega)⟩
theorem tdiv_in (a n : Int) (ha : 0 ≤ a) (hn : 1 ≤ n) : 0 ≤ Int.tdiv a n ∧ Int.tdiv a n ≤ a := by
 rw [Int.tdiv_eq_ediv_of_nonneg ha]
 exact ⟨Int.ediv_nonneg ha (by omega), Int.ediv_le_self _ ha⟩
def Bytes (s : List Int) : Prop := ∀ x ∈ s, 0 ≤ x ∧ x < 256
theorem rd_byte (s : List Int) (hs : Bytes s) (i : Int) (h0 : 0 ≤ i) (h1 : i < s.length) : 0 ≤ rd s i ∧ rd s i < 256 := by
 have : i.toNat < s.length := by omega
 have e : rd s i = s[i.toNat] := by simp [rd, this]
 rw [e]; exact hs _ (List.getElem_mem this)
theorem pick_total (s : List Int) (hs : Bytes s) (hl : s.length ≤ 2000) (p n : Int) (hp : 0 ≤ p) (hp1 : p < 1099511627776) (hn : 1 ≤ n) (hn1 : n < 2147483648) :
  ∃ r, 0 ≤ r ∧ r < n ∧ ∀ k, spec_l12Rd_pick.f (k + 1) s p n = some (r, p + 1) := by
 have e1 : wrap64 (p + 1) = p + 1 := wrap_id (by omega) (by omega)
 have e2 : wrap64 (p + 1 - 1) = p := by rw [show p + 1 - 1 = p by omega]; exact wrap_id (by omega) (by omega)
 by_cases hz : s.length = 0
 ·refine ⟨0, by omega, by omega, fun k => ?_⟩
  have hz' : ((s.length : Int) == 0) = true := by rw [hz]; rfl
  rw [spec_l12Rd_pick.f, if_neg (by omega), spec_l12Rd_pick.j0, if_pos hz', e1]
 ·have hz' : ((s.length : Int) == 0) = false := beq_false_of_ne (by omega)
  by_cases hlt : p < (s.length : Int)
  ·have hb := rd_byte s hs p hp hlt
   have hw : wrap64 (rd s p) = rd s p := wrap_id (by omega) (by omega)
   have hm := tmod_in (rd s p) n hb.1 hn
   refine ⟨Int.tmod (rd s p) n, hm.1, hm.2, fun k => ?_⟩
   rw [spec_l12Rd_pick.f, if_neg (by omega), spec_l12Rd_pick.j0, hz', if_neg (by decide), e1, e2, if_pos hlt, if_pos hp, if_neg (by omega), hw]
  ·have i1 := tmod_in p (s.length : Int) hp (by omega)
   have w7 : wrap64 (p * 7) = p * 7 := wrap_id (by omega) (by omega)
   have w73 : wrap64 (p * 7 + 3) = p * 7 + 3 := wrap_id (by omega) (by omega)
   have i2 := tmod_in (p * 7 + 3) (s.length : Int) (by omega) (by omega)
   have q1 := rd_byte s hs _ i1.1 i1.2
   have q2 := rd_byte s hs _ i2.1 i2.2
   have dv := tdiv_in p (s.length : Int) hp (by omega)
   obtain ⟨a, ha⟩ : ∃ a, a = rd s (Int.tmod p (s.length : Int)) := ⟨_, rfl⟩
   obtain ⟨b, hb⟩ : ∃ b, b = rd s (Int.tmod (p * 7 + 3) (s.length : Int)) := ⟨_, rfl⟩
   obtain ⟨d, hd⟩ : ∃ d, d = Int.tdiv p (s.length : Int) := ⟨_, rfl⟩
   rw [← ha] at q1
   rw [← hb] at q2
   rw [← hd] at dv
   have wa : wrap64 a = a := wrap_id (by omega) (by omega)
   have wb : wrap64 b = b := wrap_id (by omega) (by omega)
   have wa1 : wrap64 (a * 131) = a * 131 := wrap_id (by omega) (by omega)
   have wb1 : wrap64 (b * 1117) = b * 1117 := wrap_id (by omega) (by omega)
   have wab : wrap64 (a * 131 + b * 1117) = a * 131 + b * 1117 := wrap_id (by omega) (by omega)
   have wp : wrap64 (p * 29) = p * 29 := wrap_id (by omega) (by omega)
   have wabp : wrap64 (a * 131 + b * 1117 + p * 29) = a * 131 + b * 1117 + p * 29 := wrap_id (by omega) (by omega)
   have wd0 : wrap64 d = d := wrap_id (by omega) (by omega)
   have wd : wrap64 (d * 53) = d * 53 := wrap_id (by omega) (by omega)
   have wx : wrap64 (a * 131 + b * 1117 + p * 29 + d * 53) = a * 131 + b * 1117 + p * 29 + d * 53 := wrap_id (by omega) (by omega)
   have dx := tdiv_in (a * 131 + b * 1117 + p * 29 + d * 53) 64 (by omega) (by omega)
   have wdx : wrap64 (Int.tdiv (a * 131 + b * 1117 + p * 29 + d * 53) 64) = Int.tdiv (a * 131 + b * 1117 + p * 29 + d * 53) 64 := wrap_id (by omega) (by omega)
   have hx := xor_nonneg (a * 131 + b * 1117 + p * 29 + d * 53) (Int.tdiv (a * 131 + b * 1117 + p * 29 + d * 53) 64) (by omega) (by omega) dx.1 (by omega)
   have hm := tmod_in _ n hx hn
   refine ⟨_, hm.1, hm.2, fun k => ?_⟩
   rw [spec_l12Rd_pick.f, if_neg (by omega), spec_l12Rd_pick.j0, hz', if_neg (by decide), e1, e2, if_neg hlt, if_neg (by omega), w7, w73, if_pos i1.1, if_pos i1.2, if_pos i2.1, if_pos i2.2, if_neg (by omega), ← ha, ← hb, ← hd]
   simp only [wa, wb, wa1, wb1, wab, wp, wabp, wd0, wd, wx, wdx]
end Go.Proofs.YtfmipdhkiahjoaaDoor.B
/- A drawn region whose last operation, or last two, behind all others, do whatever they do (append, store, a call that writes). -/
namespace Go.Proofs.YtfmipdhkiahjoaaDoor.B
open Go Go.RowKit

section
variable {P : Program} {ops : Array Oper} {Q : Exit → Act → World → Prop} {md : Region.Mode}
/-- What stands before the operations of L, as far as n steps reach. -/
def reachW (ops : Array Oper) : Nat → List Nat → List Nat
 | 0, L => L
 | n + 1, L => reachW ops n (L ++ L.flatMap fun i => match ops[i]? with | some o => waitsOn o | none => []).eraseDups
theorem reachW_all {l : Nat → Bool} (hd : ∀ (i : Nat) (o : Oper), ops[i]? = some o → l i = true → ∀ j ∈ waitsOn o, l j = true) : ∀ (n : Nat) (L : List Nat), (∀ j ∈ L, l j = true) → ∀ j ∈ reachW ops n L, l j = true := by
 intro n
 induction n with
 | zero => exact fun _ h => h
 | succ n ih =>
  intro L h
  refine ih _ fun j hj => ?_
  rw [List.mem_eraseDups, List.mem_append] at hj
  rcases hj with hj | hj
  ·exact h j hj
  ·obtain ⟨i, hi, hji⟩ := List.mem_flatMap.1 hj
   cases ho : ops[i]? with
   | none => rw [ho] at hji; cases hji
   | some o => rw [ho] at hji; exact hd i o ho (h i hi) j hji
/-- A drawn region that makes memory, and whose last operation, behind all others, does whatever it does. -/
theorem weaveLast_ {id : Nat} {a0 : Act} {w : World} (m : Nat) (hm1 : ops.size = m + 1) (p : World → Prop) (hp : Lasts p) (h0 : p w) (ds : List (Tmp × Nat)) (Fs : List (Value → World → Prop)) (hm : P.follows .mixedOrders = true) (hB : weaveB ops ds = true) (hF : LastAll Fs)
  (hall : (match ops[m]? with | some o => (List.range m).all fun j => (reachW ops m (waitsOn o)).contains j | none => false) = true)
  (hwait : ((List.range m).all fun i => match ops[i]? with | some o => (waitsOn o).all fun j => decide (j < m) | none => true) = true)
  (hstep : OpsAll (fun i o => i < m → ∀ vs W, p W → (∀ j ∈ waitsOn o, FAt Fs j (vs j) W) → ∀ b, Sees a0 ds o vs b → StepOK P ops o b W fun v W' => Below W.heap.size W W' ∧ FAt Fs i v W') ops.toList 0)
  (Ψ : Value → World → Prop) (hlast : ∀ o, ops[m]? = some o → ∀ vs W, p W → (∀ j, j < m → FAt Fs j (vs j) W) → ∀ b, Sees a0 ds o vs b → StepOK P ops o b W Ψ)
  (hend : ∀ (vs : Nat → Value) W, Ψ (vs m) W → Q .normal (putL a0 (ds.map fun q => (q.1, vs q.2))) W) : (Code.region id ops true).wp P Q a0 w := by
 refine weave (fun l vs W => (∀ (i : Nat) (o : Oper), ops[i]? = some o → l i = true → ∀ j ∈ waitsOn o, l j = true) ∧ (l m = false → p W ∧ ∀ j, j < m → l j = true → FAt Fs j (vs j) W) ∧ (l m = true → Ψ (vs m) W)) ds hm hB ?_ ?_ ?_
 ·exact ⟨(fun _ _ _ h => absurd h (by simp)), (fun _ => ⟨hp _ _ (drew_below w) h0, (fun _ _ h => absurd h (by simp))⟩), (fun h => absurd h (by simp))⟩
 ·intro i o ho l vs W ⟨hc, hI, _⟩ hli hw b hsee
  have hlt := (Array.getElem?_eq_some_iff.1 ho).1
  obtain ⟨om, hom⟩ : ∃ o, ops[m]? = some o := ⟨ops[m], by simp [show m < ops.size by omega]⟩
  have hbelow : (∀ j ∈ waitsOn om, l j = true) → ∀ j, j < m → l j = true := fun hh j hj => by
   rw [hom] at hall
   exact reachW_all hc m _ hh j (by simpa using List.all_eq_true.1 hall j (List.mem_range.2 hj))
  have hdc : ∀ (i' : Nat) (o' : Oper), ops[i']? = some o' → (i' == i || l i') = true → ∀ j ∈ waitsOn o', (j == i || l j) = true := by
   intro i' o' ho' hh j hj
   by_cases hii : i' = i
   ·subst hii
    have : o' = o := Option.some.inj (ho'.symm.trans ho)
    subst this
    simp [hw j hj]
   ·have : l i' = true := by simpa [hii] using hh
    simp [hc i' o' ho' this j hj]
  by_cases hin : i < m
  ·have hlm : l m = false := by
    cases hq : l m with
    | false => rfl
    | true => rw [hbelow (hc m om hom hq) i hin] at hli; cases hli
   obtain ⟨h1, h2⟩ := hI hlm
   have hst := OpsAll.at ops.toList 0 hstep i o (by rw [Array.getElem?_toList]; exact ho)
   rw [Nat.zero_add] at hst
   have hmi : (m == i) = false := by simp; omega
   intro K Q' hK
   refine hst hin vs W h1 (fun j hj => ?_) b hsee K Q' fun v W' hv => hK v W' ⟨hdc, fun _ => ⟨hp _ _ hv.1 h1, fun j hj hlj => ?_⟩, fun hh => by simp [hmi, hlm] at hh⟩
   ·have hjm : j < m := by
     have := List.all_eq_true.1 hwait i (List.mem_range.2 hin)
     rw [ho] at this
     simpa using List.all_eq_true.1 this j hj
    exact h2 j hjm (hw j hj)
   ·by_cases hji : j = i
    ·subst hji
     simpa using hv.2
    ·simp only [hji, if_false]
     exact FAt.last Fs hF j _ _ _ hv.1 (h2 j hj (by simpa [hji] using hlj))
  ·have him : i = m := by omega
   subst him
   obtain ⟨h1, h2⟩ := hI hli
   have : o = om := Option.some.inj (ho.symm.trans hom)
   subst this
   have hl := hbelow hw
   intro K Q' hK
   exact hlast o ho vs W h1 (fun j hj => h2 j hj (hl j hj)) b hsee K Q' fun v W' hv => hK v W' ⟨hdc, fun hh => by simp at hh, fun _ => by simpa using hv⟩
 ·intro l vs W hl hI
  exact hend vs W (hI.2.2 (hl m (by omega)))
end
end Go.Proofs.YtfmipdhkiahjoaaDoor.B
/- A drawn region of memory that is made, with an operation behind all before it and a last one behind that. -/
namespace Go.Proofs.YtfmipdhkiahjoaaDoor.B
open Go Go.RowKit Go.Proofs.YtfmipdhkiahjoaaDoorW.PrintWords Go.Proofs.YtfmipdhkiahjoaaDoorW.PrintLast Go.Proofs.YtfmipdhkiahjoaaDoorW.PrintMore
set_option linter.unusedVariables false
section
variable {P : Program} {ops : Array Oper} {Q : Exit → Act → World → Prop}
abbrev StepsB (P : Program) (ops : Array Oper) (S : List Nat) (blk : Nat → Value → Option Nat) (m : Nat) (a0 : Act) (ds : List (Tmp × Nat)) (Fs : List (Value → World → Prop)) (p : (Nat → Bool) → World → Prop) : Prop :=
 OpsAll (fun i o => i < m → ∀ l vs W, p l W → l i = false → (∀ j ∈ waitsOn o, FAt Fs j (vs j) W) → ∀ b, Sees a0 ds o vs b → StepOK P ops o b W fun v W' => Below W.heap.size W W' ∧ p (fun j => j == i || l j) W' ∧ FAt Fs i v W' ∧ (S.contains i = true → ∀ k, blk i v = some k → W.heap.size ≤ k)) ops.toList 0
/-- Operation m, behind all before it, and the last one, behind it, do whatever they do; those between (late) are plain and come at any time. -/
theorem weaveBT_ {id : Nat} {a0 : Act} {w : World} (S : List Nat) (blk : Nat → Value → Option Nat) (m z : Nat) (hS : (S.all fun j => decide (j < m)) = true) (hz1 : ops.size = z + 1) (hmz : m < z) (late : List (Nat × Value)) (hlate : ((List.range z).all fun j => decide (j ≤ m) || late.any fun q => q.1 == j) = true) (hlate2 : (late.all fun q => decide (m < q.1) && decide (q.1 < z)) = true)
  (p : (Nat → Bool) → World → Prop) (h0 : p (fun _ => false) w.drew) (ds : List (Tmp × Nat)) (Fs : List (Value → World → Prop)) (hm : P.follows .mixedOrders = true) (hB : weaveB ops ds = true) (hF : LastAll Fs)
  (hall : (match ops[m]? with | some o => (List.range m).all fun j => (reachW ops m (waitsOn o)).contains j | none => false) = true)
  (hall2 : (match ops[z]? with | some o => (waitsOn o).contains m && late.all fun q => (waitsOn o).contains q.1 | none => false) = true)
  (hwait : ((List.range m).all fun i => match ops[i]? with | some o => (waitsOn o).all fun j => decide (j < m) | none => true) = true)
  (hstep : StepsB P ops S blk m a0 ds Fs p) (hltS : ∀ j ∈ S, ∀ v W, FAt Fs j v W → ∀ k, blk j v = some k → k < W.heap.size)
  (hpure : ∀ q ∈ late, ∀ o, ops[q.1]? = some o → ∀ vs W b, Sees a0 ds o vs b → StepOK P ops o b W fun v W' => W' = W ∧ v = q.2) (hone : (late.map (·.1)).Nodup)
  (Ψ Φ : Value → World → Prop) (hlast : ∀ o, ops[m]? = some o → ∀ l vs W, (∀ j, j < m → l j = true) → p l W → (∀ j, j < m → FAt Fs j (vs j) W) → (∀ i ∈ S, ∀ j ∈ S, i ≠ j → ∀ k, blk i (vs i) = some k → blk j (vs j) ≠ some k) → ∀ b, Sees a0 ds o vs b → StepOK P ops o b W Ψ)
  (hlast2 : ∀ o, ops[z]? = some o → ∀ vs W, Ψ (vs m) W → (∀ q ∈ late, vs q.1 = q.2) → ∀ b, Sees a0 ds o vs b → StepOK P ops o b W Φ)
  (hend : ∀ (vs : Nat → Value) W, Φ (vs z) W → Q .normal (putL a0 (ds.map fun q => (q.1, vs q.2))) W) : (Code.region id ops true).wp P Q a0 w := by
 refine weave (fun l vs W => (∀ (i : Nat) (o : Oper), ops[i]? = some o → l i = true → ∀ j ∈ waitsOn o, l j = true) ∧ (∀ q ∈ late, l q.1 = true → vs q.1 = q.2) ∧ (l m = false → (p (fun j => decide (j < m) && l j) W ∧ ∀ j, j < m → l j = true → FAt Fs j (vs j) W) ∧ ∀ i ∈ S, ∀ j ∈ S, i ≠ j → l i = true → l j = true → ∀ k, blk i (vs i) = some k → blk j (vs j) ≠ some k) ∧ (l m = true → l z = false → Ψ (vs m) W) ∧ (l z = true → Φ (vs z) W)) ds hm hB ?_ ?_ ?_
 ·refine ⟨(fun _ _ _ h => absurd h (by simp)), (fun _ _ h => absurd h (by simp)), (fun _ => ⟨⟨?_, (fun _ _ h => absurd h (by simp))⟩, fun _ _ _ _ _ h => absurd h (by simp)⟩), (fun h => absurd h (by simp)), (fun h => absurd h (by simp))⟩
  simpa using h0
 ·intro i o ho l vs W ⟨hc, hL, hI, hJ, _⟩ hli hw b hsee
  have hlt := (Array.getElem?_eq_some_iff.1 ho).1
  obtain ⟨om, hom⟩ : ∃ o, ops[m]? = some o := ⟨ops[m], by simp [show m < ops.size by omega]⟩
  obtain ⟨oz, hoz⟩ : ∃ o, ops[z]? = some o := ⟨ops[z], by simp [show z < ops.size by omega]⟩
  have hbelow : (∀ j ∈ waitsOn om, l j = true) → ∀ j, j < m → l j = true := fun hh j hj => by
   rw [hom] at hall
   exact reachW_all hc m _ hh j (by simpa using List.all_eq_true.1 hall j (List.mem_range.2 hj))
  rw [hoz] at hall2
  simp only [Bool.and_eq_true] at hall2
  have hzm : l z = true → l m = true := fun hh => hc _ _ hoz hh m (by simpa using hall2.1)
  have hdc : ∀ (i' : Nat) (o' : Oper), ops[i']? = some o' → (i' == i || l i') = true → ∀ j ∈ waitsOn o', (j == i || l j) = true := by
   intro i' o' ho' hh j hj
   by_cases hii : i' = i
   ·subst hii
    have : o' = o := Option.some.inj (ho'.symm.trans ho)
    subst this
    simp [hw j hj]
   ·have : l i' = true := by simpa [hii] using hh
    simp [hc i' o' ho' this j hj]
  by_cases hin : i < m
  ·have hlm : l m = false := by
    cases hq : l m with
    | false => rfl
    | true => rw [hbelow (hc m om hom hq) i hin] at hli; cases hli
   have hlz : l z = false := by
    cases hq : l z with
    | false => rfl
    | true => rw [hzm hq] at hlm; cases hlm
   obtain ⟨⟨h1, h2⟩, hap⟩ := hI hlm
   have hst := OpsAll.at ops.toList 0 hstep i o (by rw [Array.getElem?_toList]; exact ho)
   rw [Nat.zero_add] at hst
   have hmi : (m == i) = false := by simp; omega
   have hzi : (z == i) = false := by simp; omega
   have hfe : (fun j => j == i || (decide (j < m) && l j)) = (fun j => decide (j < m) && (j == i || l j)) := by
    funext j
    by_cases hji : j = i
    ·subst hji; simp [hin]
    ·have hb : (j == i) = false := by simp [hji]
     simp [hb]
   intro K Q' hK
   refine hst hin _ vs W h1 (by simp [hli]) (fun j hj => ?_) b hsee K Q' fun v W' hv => hK v W' ⟨hdc, fun q hq hlq => ?_, fun _ => ⟨⟨by rw [← hfe]; exact hv.2.1, fun j hj hlj => ?_⟩, fun x hx y hy hxy hlx hly k hk => ?_⟩, fun hh => by simp [hmi, hlm] at hh, fun hh => by simp [hzi, hlz] at hh⟩
   ·have hjm : j < m := by
     have := List.all_eq_true.1 hwait i (List.mem_range.2 hin)
     rw [ho] at this
     simpa using List.all_eq_true.1 this j hj
    exact h2 j hjm (hw j hj)
   ·have hq1 := List.all_eq_true.1 hlate2 q hq
    simp only [Bool.and_eq_true, decide_eq_true_eq] at hq1
    have hqi : q.1 ≠ i := by omega
    exact (if_neg hqi).trans (hL q hq (by simpa [hqi] using hlq))
   ·by_cases hji : j = i
    ·subst hji
     simpa using hv.2.2.1
    ·simp only [hji, if_false]
     exact FAt.last Fs hF j _ _ _ hv.1 (h2 j hj (by simpa [hji] using hlj))
   ·have hxm : x < m := of_decide_eq_true (List.all_eq_true.1 hS x hx)
    have hym : y < m := of_decide_eq_true (List.all_eq_true.1 hS y hy)
    by_cases hxi : x = i
    ·have hyi : y ≠ i := fun e => hxy (hxi.trans e.symm)
     simp only [hxi, if_true] at hk
     simp only [hyi, if_false]
     intro hk'
     have q1 := hv.2.2.2 (by rw [← hxi]; exact List.contains_iff_mem.2 hx) k hk
     have q2 := hltS y hy _ _ (h2 y hym (by simpa [hyi] using hly)) k hk'
     omega
    ·simp only [hxi, if_false] at hk
     by_cases hyi : y = i
     ·simp only [hyi, if_true]
      intro hk'
      have q1 := hv.2.2.2 (by rw [← hyi]; exact List.contains_iff_mem.2 hy) k hk'
      have q2 := hltS x hx _ _ (h2 x hxm (by simpa [hxi] using hlx)) k hk
      omega
     ·simp only [hyi, if_false]
      exact hap x hx y hy hxy (by simpa [hxi] using hlx) (by simpa [hyi] using hly) k hk
  ·by_cases him : i = m
   ·subst him
    have hlz : l z = false := by
     cases hq : l z with
     | false => rfl
     | true => rw [hzm hq] at hli; cases hli
    have : o = om := Option.some.inj (ho.symm.trans hom)
    subst this
    obtain ⟨⟨h1, h2⟩, hap⟩ := hI hli
    have hl := hbelow hw
    have hzi : (z == i) = false := by simp; omega
    intro K Q' hK
    refine hlast o ho _ vs W (fun j hj => by simp [hj, hl j hj]) h1 (fun j hj => h2 j hj (hl j hj)) (fun x hx y hy hxy => hap x hx y hy hxy (hl x (of_decide_eq_true (List.all_eq_true.1 hS x hx))) (hl y (of_decide_eq_true (List.all_eq_true.1 hS y hy)))) b hsee K Q' fun v W' hv => hK v W' ⟨hdc, fun q hq hlq => ?_, fun hh => by simp at hh, fun _ _ => by simpa using hv, fun hh => by simp [hzi, hlz] at hh⟩
    have hq1 := List.all_eq_true.1 hlate2 q hq
    simp only [Bool.and_eq_true, decide_eq_true_eq] at hq1
    have hqi : q.1 ≠ i := by omega
    exact (if_neg hqi).trans (hL q hq (by simpa [hqi] using hlq))
   ·by_cases hiz : i = z
    ·subst hiz
     have : o = oz := Option.some.inj (ho.symm.trans hoz)
     subst this
     have hlm : l m = true := hw m (by simpa using hall2.1)
     intro K Q' hK
     refine hlast2 o ho vs W (hJ hlm hli) (fun q hq => hL q hq (hw q.1 (by simpa using List.all_eq_true.1 hall2.2 q hq))) b hsee K Q' fun v W' hv => hK v W' ⟨hdc, fun q hq hlq => ?_, fun hh => by simp [hlm] at hh, fun _ hh => by simp at hh, fun _ => by simpa using hv⟩
     have hq1 := List.all_eq_true.1 hlate2 q hq
     simp only [Bool.and_eq_true, decide_eq_true_eq] at hq1
     have hqi : q.1 ≠ i := by omega
     exact (if_neg hqi).trans (hL q hq (by simpa [hqi] using hlq))
    ·have hi1 := List.all_eq_true.1 hlate i (List.mem_range.2 (by omega))
     simp only [Bool.or_eq_true, decide_eq_true_eq, List.any_eq_true, beq_iff_eq] at hi1
     obtain ⟨q, hq, rfl⟩ : ∃ q ∈ late, q.1 = i := by
      rcases hi1 with hi1 | hi1
      ·omega
      ·exact hi1
     have hq1 := List.all_eq_true.1 hlate2 q hq
     simp only [Bool.and_eq_true, decide_eq_true_eq] at hq1
     have hmi : (m == q.1) = false := by simp; omega
     have hzi : (z == q.1) = false := by simp; omega
     have hfe : (fun j => decide (j < m) && l j) = (fun j => decide (j < m) && (j == q.1 || l j)) := by
      funext j
      by_cases hji : j = q.1
      ·subst hji; simp [show ¬ q.1 < m by omega]
      ·have hb : (j == q.1) = false := by simp [hji]
       simp [hb]
     intro K Q' hK
     refine hpure q hq o ho vs W b hsee K Q' fun v W' hv => hK v W' ?_
     obtain ⟨rfl, rfl⟩ := hv
     refine ⟨hdc, fun r hr hlr => ?_, fun hh => ?_, fun hh hh2 => ?_, fun hh => ?_⟩
     ·by_cases hrq : r.1 = q.1
      ·have : ∀ L : List (Nat × Value), (L.map (·.1)).Nodup → q ∈ L → r ∈ L → q.2 = r.2 := by
        intro L hn h1 h2
        induction L with
        | nil => cases h1
        | cons a L ih =>
         rw [List.map_cons, List.nodup_cons] at hn
         rcases List.mem_cons.1 h1 with e1 | e1 <;> rcases List.mem_cons.1 h2 with e2 | e2
         ·rw [e1, e2]
         ·exact absurd (List.mem_map.2 ⟨r, e2, by rw [hrq, e1]⟩) hn.1
         ·exact absurd (List.mem_map.2 ⟨q, e1, by rw [← hrq, e2]⟩) hn.1
         ·exact ih hn.2 e1 e2
       exact (if_pos hrq).trans (this late hone hq hr)
      ·exact (if_neg hrq).trans (hL r hr (by simpa [hrq] using hlr))
     ·have hlm : l m = false := by simpa [hmi] using hh
      obtain ⟨⟨h1, h2⟩, hap⟩ := hI hlm
      refine ⟨⟨by rw [← hfe]; exact h1, fun j hj hlj => ?_⟩, fun x hx y hy hxy hlx hly k hk => ?_⟩
      ·have hjq : j ≠ q.1 := by omega
       simp only [hjq, if_false]
       exact h2 j hj (by simpa [hjq] using hlj)
      ·have hxq : x ≠ q.1 := by have := of_decide_eq_true (List.all_eq_true.1 hS x hx); omega
       have hyq : y ≠ q.1 := by have := of_decide_eq_true (List.all_eq_true.1 hS y hy); omega
       simp only [hxq, if_false] at hk
       simp only [hyq, if_false]
       exact hap x hx y hy hxy (by simpa [hxq] using hlx) (by simpa [hyq] using hly) k hk
     ·have hlm : l m = true := by simpa [hmi] using hh
      have hlz : l z = false := by simpa [hzi] using hh2
      have : m ≠ q.1 := by omega
      simp only [this, if_false]
      exact hJ hlm hlz
     ·have hlz : l z = true := by simpa [hzi] using hh
      have := hc _ _ hoz hlz q.1 (by simpa using List.all_eq_true.1 hall2.2 q hq)
      rw [hli] at this
      cases this
 ·intro l vs W hl hI
  exact hend vs W (hI.2.2.2.2 (hl z (by omega)))
end
end Go.Proofs.YtfmipdhkiahjoaaDoor.B
/- slices.ContainsFunc over rows of impl.Act, at any function value. -/
namespace Go.Proofs.YtfmipdhkiahjoaaDoor.B
open Go.RowKit Go.Shelf Go.Proofs.YtfmipdhkiahjoaaDoorW.PrintWords Go.Proofs.YtfmipdhkiahjoaaDoorW.PrintLast Go.Proofs.YtfmipdhkiahjoaaDoorW.PrintMore
set_option linter.unusedVariables false

/-- What a function value says of an element, in every world behind w0. -/
def PrAc (f : Nat) (cap : Array Value) (p : S39 → Bool) (w0 : World) (l : List S39) : Prop := ∀ (x : S39)  (w : World), x ∈ l → Below w0.heap.size w0 w → Calls Tryd.prog f (#[.agg #[.int .i64 x.f0, .int .i64 x.f1, .int .i64 x.f2.f0, .int .i64 x.f2.f1]] ++ cap) w fun e w' => e = .returned (.bool (p x)) ∧ Below w.heap.size w w'
set_option maxRecDepth 100000 in
set_option maxHeartbeats 4000000 in
theorem indexFuncAc_any (f : Nat) (cap : Array Value) (p : S39 → Bool) (he : ∀ args w, (callFunc f args).run Tryd.prog w = .ok (.enter f args) w) (l : List S39) (A : Option Addr) (c : Nat) (w : World) (hf : PrAc f cap p w l) (hC : Kd.C k39 w A l.length l) (hc : l.length ≤ c) :
  Calls Tryd.prog 48 #[.slice A l.length c, .func (.func f) #[] cap] w fun e w' => (∃ r : Int, decide (0 ≤ r) = l.any p ∧ e = .returned (.int .i64 r)) ∧ Below w.heap.size w w' := by
 have hmax : l.length ≤ 9223372036854775807 := hC.2.1
 have HFC := Aside0.mk (And.intro hf hC)
 clear hf hC
 go_enter Tryd.func48, Tryd.ntmps48
 go_wp2
 go_loopw [5, 8] (fun _ i wr => ∃ (j : Nat), i = .int .i64 j ∧ Aside0 (j ≤ l.length ∧ (l.take j).any p = false ∧ Below w.heap.size w wr)) (fun _ i _ => l.length - (intOf i).toNat)
 case atStart => exact ⟨0, rfl, ⟨Nat.zero_le _, by simp, Below.refl _ _⟩⟩
 case round =>
  obtain ⟨j, rfl, HR⟩ := hrel
  by_cases hj : j < l.length
  ·obtain ⟨ad, hA, e0, e1, e2, e3⟩ := at_T39 HFC.out.2 (j : Int) (by omega) (by omega)
   cases hA
   have hkid : rd_T39 l (j : Int) = l[j] := by simp [rd_T39, hj]
   have hb := HR.out.2.2
   replace e0 := (hb.cell (World.block_lt_of_cell? w _ e0)).trans e0
   replace e1 := (hb.cell (World.block_lt_of_cell? w _ e1)).trans e1
   replace e2 := (hb.cell (World.block_lt_of_cell? w _ e2)).trans e2
   replace e3 := (hb.cell (World.block_lt_of_cell? w _ e3)).trans e3
   rw [hkid] at e0 e1 e2 e3
   simp only [Int.toNat_natCast] at e0 e1 e2 e3
   obtain ⟨x, hx⟩ : ∃ x, x = l[j] := ⟨_, rfl⟩
   rw [← hx] at e0 e1 e2 e3
   have HC := Aside0.mk (HFC.out.1 x  wr (by rw [hx]; exact List.getElem_mem hj) hb)
   have HX := Aside0.mk (And.intro hx hmax)
   have HJ := Aside0.mk hj
   clear hb hx hkid
   go_wp2_with fail
   refine HC.out.mono ?_
   clear HC
   rintro e w1 ⟨rfl, hb1⟩
   have HB := Aside0.mk (HR.out.2.2.trans (hb1.mono HR.out.2.2.size))
   clear hb1
   cases hp : p x with
   | true =>
    have HP := Aside0.mk hp; clear hp
    go_wp2
    go_ret
    refine ⟨⟨j, ?_, rfl⟩, HB.out⟩
    have : l.any p = true := List.any_eq_true.2 ⟨l[j], List.getElem_mem HJ.out, by rw [← HX.out.1]; exact HP.out⟩
    rw [this]; simp
   | false =>
    have HP := Aside0.mk hp; clear hp
    go_wp2
    go_roundw
    case rel => exact ⟨j + 1, by go_num, ⟨HJ.out, by rw [List.take_succ_eq_append_getElem HJ.out, List.any_append, HR.out.2.1]; simp [← HX.out.1, HP.out], HB.out⟩⟩
    case measure => have := HJ.out; simp [intOf]; omega
  ·have hjl : j = l.length := by have := HR.out.1; omega
   have hn := HR.out.2.1
   rw [hjl, List.take_of_length_le (Nat.le_refl _)] at hn
   have HN := Aside0.mk hn; clear hn hjl
   go_wp2
   go_ret
   exact ⟨⟨-1, by rw [HN.out]; rfl, rfl⟩, HR.out.2.2⟩
set_option maxRecDepth 100000 in
theorem containsFuncAc_any (f : Nat) (cap : Array Value) (p : S39 → Bool) (he : ∀ args w, (callFunc f args).run Tryd.prog w = .ok (.enter f args) w) (l : List S39) (A : Option Addr) (c : Nat) (w : World) (hf : PrAc f cap p w l) (hC : Kd.C k39 w A l.length l) (hc : l.length ≤ c) :
  Calls Tryd.prog 30 #[.slice A l.length c, .func (.func f) #[] cap] w fun e w' => e = .returned (.bool (l.any p)) ∧ Below w.heap.size w w' := by
 have HC := Aside0.mk (indexFuncAc_any f cap p he l A c w hf hC hc)
 clear hC hc hf
 go_enter Tryd.func30, Tryd.ntmps30
 go_wp2_with fail
 refine HC.out.mono ?_
 clear HC
 rintro e w1 ⟨⟨r, hr, rfl⟩, hb1⟩
 have HB := Aside0.mk (And.intro hr hb1)
 clear hr hb1
 go_wp2
 go_ret
 exact ⟨by rw [← HB.out.1]; rfl, HB.out.2⟩
end Go.Proofs.YtfmipdhkiahjoaaDoor.B
