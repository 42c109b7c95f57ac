import Derived.Test.YtendbgedpjcocaaGreatDoorPkA
import Derived.Test.YtendbgedpjcocaaGreatDoorPkB
import Derived.Laws.BitsLemmas
import Derived.Test.YtendbgedpjcocaaGreatDoorJnI
import Derived.Deep.RegionHeld3
/- Plain law: what the parts say and what the specification says of an expression are the same. -/
namespace Go.Proofs.YtendbgedpjcocaaGreatDoor.B
open Go.RowKit Go.Proofs.YtendbgedpjcocaaGreatDoorW.PrintWords Go.Proofs.YtendbgedpjcocaaGreatDoorW.PrintLast Go.Proofs.YtendbgedpjcocaaGreatDoorW.PrintMore
set_option linter.unusedVariables false

def headOk (e : Ex) : Bool := kindOk e.f0 && ((e.f3.length : Int) == kidsN e.f0) && shapeL e.f0 e.f1 e.f2.f0 e.f2.f1
def formS : Nat → Ex → Bool
 | 0, _ => false
 | d + 1, e => headOk e && e.f3.all (formS d)
def manyS : Nat → Ex → Nat
 | 0, _ => 1
 | d + 1, e => 1 + (e.f3.map (manyS d)).sum
theorem manyS_pos (d : Nat) (e : Ex) : 1 ≤ manyS d e := by cases d <;> simp [manyS]
theorem okL_pre {xs ys : List (Int × Ex)} (h : xs <+: ys) (hx : okL 0 xs = false) : okL 0 ys = false := by
 obtain ⟨zs, rfl⟩ := h
 rw [okL_append, hx]; rfl

/-- What a walk leaves, where all that had come is ok. -/
def WalkOk (r : List (Int × Ex) × Bool) (ok : Bool) (n : Nat) : Prop := okL 0 r.1 = (ok && decide (n ≤ 14)) ∧ (okL 0 r.1 = true → r.2 = true ∧ r.1.length = n)
theorem fold_ok (d : Nat) (ih : ∀ (e : Ex) (acc : List (Int × Ex)), acc.length ≤ 14 → okL 0 acc = true → WalkOk (walkP d e acc) (formS d e) (acc.length + manyS d e)) (ks : List Ex) :
  ∀ acc : List (Int × Ex), acc.length ≤ 14 → okL 0 acc = true → WalkOk (ks.foldl (fun s k => if s.2 then walkP d k s.1 else s) (acc, true)) (ks.all (formS d)) (acc.length + (ks.map (manyS d)).sum) := by
 induction ks with
 | nil => intro acc h1 h2; exact ⟨by simp [h2, h1], fun _ => ⟨rfl, by simp⟩⟩
 | cons k ks ihk =>
  intro acc h1 h2
  have hw := ih k acc h1 h2
  show WalkOk (ks.foldl (fun s k => if s.2 then walkP d k s.1 else s) (walkP d k acc)) _ _
  by_cases hr : okL 0 (walkP d k acc).1 = true
  ·obtain ⟨hr2, hlen⟩ := hw.2 hr
   have hf : formS d k = true ∧ acc.length + manyS d k ≤ 14 := by have := hw.1; rw [hr] at this; simpa using this.symm
   have h3 := ihk (walkP d k acc).1 (by omega) hr
   rw [show walkP d k acc = ((walkP d k acc).1, true) from Prod.ext rfl hr2]
   rw [hlen] at h3
   rw [List.all_cons, hf.1, Bool.true_and, List.map_cons, List.sum_cons, ← Nat.add_assoc]
   exact h3
  ·have hr' : okL 0 (walkP d k acc).1 = false := by simpa using hr
   have hz : okL 0 (ks.foldl (fun s k => if s.2 then walkP d k s.1 else s) (walkP d k acc)).1 = false := okL_pre (fold_pre d ks _) hr'
   refine ⟨?_, fun h => by rw [hz] at h; cases h⟩
   rw [hz]
   have hw1 := hw.1
   rw [hr'] at hw1
   cases hfk : formS d k with
   | false => simp [hfk]
   | true =>
    have : ¬ (acc.length + manyS d k ≤ 14) := by rw [hfk] at hw1; simpa using hw1
    symm
    rw [Bool.and_eq_false_iff]
    right
    simp
    omega
theorem walk_ok (d : Nat) : d ≤ 6 → ∀ (e : Ex) (acc : List (Int × Ex)), acc.length ≤ 14 → okL 0 acc = true → WalkOk (walkP d e acc) (formS d e) (acc.length + manyS d e) := by
 induction d with
 | zero =>
  intro _ e acc h1 h2
  have : okL 0 (walkP 0 e acc).1 = false := by simp [walkP, okL_snoc, partOk]
  exact ⟨by rw [this]; simp [formS], fun h => by rw [this] at h; cases h⟩
 | succ d ih =>
  intro hd e acc h1 h2
  have hp : partOk (acc.length + 1) ((5 : Int) - d, e) = (decide (acc.length + 1 ≤ 14) && headOk e) := by
   simp only [partOk, headOk, decide_eq_true (show (5 : Int) - d < 6 by omega), Bool.and_true, Bool.and_assoc]
  have hs : okL 0 (acc ++ [((5 : Int) - d, e)]) = (decide (acc.length + 1 ≤ 14) && headOk e) := by rw [okL_snoc, h2, Nat.zero_add, hp]; rfl
  by_cases h14 : (acc ++ [((5 : Int) - d, e)]).length > 14
  ·have h13 : decide (acc.length + 1 ≤ 14) = false := by simp at h14 ⊢; omega
   have : okL 0 (walkP (d + 1) e acc).1 = false := by rw [walkP, if_pos h14]; rw [hs, h13]; rfl
   refine ⟨?_, fun h => by rw [this] at h; cases h⟩
   rw [this]
   have := manyS_pos (d + 1) e
   symm; rw [Bool.and_eq_false_iff]; right
   simp at h14 ⊢; omega
  ·have h13 : acc.length + 1 ≤ 14 := by simp at h14; omega
   have hwk : walkP (d + 1) e acc = e.f3.foldl (fun s k => if s.2 then walkP d k s.1 else s) (acc ++ [((5 : Int) - d, e)], true) := by rw [walkP, if_neg h14]
   rw [decide_eq_true h13, Bool.true_and] at hs
   rw [hwk]
   cases hh : headOk e with
   | false =>
    rw [hh] at hs
    have hz := okL_pre (fold_pre d e.f3 (acc ++ [((5 : Int) - d, e)], true)) hs
    refine ⟨?_, fun h => by rw [hz] at h; cases h⟩
    rw [hz]; simp [formS, hh]
   | true =>
    rw [hh] at hs
    have := fold_ok d (ih (by omega)) e.f3 (acc ++ [((5 : Int) - d, e)]) (by simp; omega) hs
    simp only [List.length_append, List.length_cons, List.length_nil] at this
    simp only [formS, hh, Bool.true_and, manyS]
    rw [show acc.length + (1 + (e.f3.map (manyS d)).sum) = acc.length + (0 + 1) + (e.f3.map (manyS d)).sum by omega]
    exact this
theorem okL_eq (e : Ex) : okL 0 (partsL e) = (formS 6 e && decide (manyS 6 e ≤ 14)) := by
 have := (walk_ok 6 (Nat.le_refl _) e [] (by simp) rfl).1
 simpa [partsL] using this
end Go.Proofs.YtendbgedpjcocaaGreatDoor.B
/- The draws' pick ends, and is in its bounds. -/
namespace Go.Proofs.YtendbgedpjcocaaGreatDoor.B
open Go.RowKit Go.Proofs.YtendbgedpjcocaaGreatDoorW.PrintWords Go.Proofs.YtendbgedpjcocaaGreatDoorW.PrintLast Go.Proofs.YtendbgedpjcocaaGreatDoorW.PrintMore
set_option linter.unusedVariables false

theorem wrap_id {n : Int} (h0 : -9223372036854775808 ≤ n) (h1 : n ≤ 9223372036854775807) : wrap64 n = n := by
 unfold wrap64
 omega
theorem xor_nonneg (a b : Int) (ha : 0 ≤ a) (ha1 : a < 2 ^ 62) (hb : 0 ≤ b) (hb1 : b < 2 ^ 62) : 0 ≤ Go.bits .xor .i64 a b := by
 obtain ⟨m, rfl⟩ := Int.eq_ofNat_of_zero_le ha
 obtain ⟨n, rfl⟩ := Int.eq_ofNat_of_zero_le hb
 have hm : m < 2 ^ 62 := by omega
 have hn : n < 2 ^ 62 := by omega
 have hx := Nat.xor_lt_two_pow hm hn
 have ha' : m % 2 ^ 64 = m := Nat.mod_eq_of_lt (by omega)
 have hb' : n % 2 ^ 64 = n := Nat.mod_eq_of_lt (by omega)
 have hq : (BitVec.ofNat 64 m ^^^ BitVec.ofNat 64 n).toNat = m ^^^ n := by rw [BitVec.toNat_xor, BitVec.toNat_ofNat, BitVec.toNat_ofNat, ha', hb']
 show 0 ≤ IntKind.i64.wrap (((BitVec.ofInt 64 (m : Int)) ^^^ (BitVec.ofInt 64 (n : Int))).toNat : Int)
 rw [BitVec.ofInt_natCast, BitVec.ofInt_natCast, hq, IntKind.wrap_i64]
 omega
theorem tmod_in (a n : Int) (ha : 0 ≤ a) (hn : 1 ≤ n) : 0 ≤ Int.tmod a n ∧ Int.tmod a n < n := by
 rw [Int.tmod_eq_emod_of_nonneg ha]
 exact ⟨Int.emod_nonneg _ (by omega), Int.emod_lt_of_pos _ (by omega)⟩
theorem tdiv_in (a n : Int) (ha : 0 ≤ a) (hn : 1 ≤ n) : 0 ≤ Int.tdiv a n ∧ Int.tdiv a n ≤ a := by
 rw [Int.tdiv_eq_ediv_of_nonneg ha]
 exact ⟨Int.ediv_nonneg ha (by omega), Int.ediv_le_self _ ha⟩
def Bytes (s : List Int) : Prop := ∀ x ∈ s, 0 ≤ x ∧ x < 256
theorem rd_byte (s : List Int) (hs : Bytes s) (i : Int) (h0 : 0 ≤ i) (h1 : i < s.length) : 0 ≤ rd s i ∧ rd s i < 256 := by
 have : i.toNat < s.length := by omega
 have e : rd s i = s[i.toNat] := by simp [rd, this]
 rw [e]; exact hs _ (List.getElem_mem this)
theorem pick_total (s : List Int) (hs : Bytes s) (hl : s.length ≤ 2000) (p n : Int) (hp : 0 ≤ p) (hp1 : p < 1099511627776) (hn : 1 ≤ n) (hn1 : n < 2147483648) :
  ∃ r, 0 ≤ r ∧ r < n ∧ ∀ k, spec_l12Rd_pick.f (k + 1) s p n = some (r, p + 1) := by
 have e1 : wrap64 (p + 1) = p + 1 := wrap_id (by omega) (by omega)
 have e2 : wrap64 (p + 1 - 1) = p := by rw [show p + 1 - 1 = p by omega]; exact wrap_id (by omega) (by omega)
 by_cases hz : s.length = 0
 ·refine ⟨0, by omega, by omega, fun k => ?_⟩
  have hz' : ((s.length : Int) == 0) = true := by rw [hz]; rfl
  rw [spec_l12Rd_pick.f, if_neg (by omega), spec_l12Rd_pick.j0, if_pos hz', e1]
 ·have hz' : ((s.length : Int) == 0) = false := beq_false_of_ne (by omega)
  by_cases hlt : p < (s.length : Int)
  ·have hb := rd_byte s hs p hp hlt
   have hw : wrap64 (rd s p) = rd s p := wrap_id (by omega) (by omega)
   have hm := tmod_in (rd s p) n hb.1 hn
   refine ⟨Int.tmod (rd s p) n, hm.1, hm.2, fun k => ?_⟩
   rw [spec_l12Rd_pick.f, if_neg (by omega), spec_l12Rd_pick.j0, hz', if_neg (by decide), e1, e2, if_pos hlt, if_pos hp, if_neg (by omega), hw]
  ·have i1 := tmod_in p (s.length : Int) hp (by omega)
   have w7 : wrap64 (p * 7) = p * 7 := wrap_id (by omega) (by omega)
   have w73 : wrap64 (p * 7 + 3) = p * 7 + 3 := wrap_id (by omega) (by omega)
   have i2 := tmod_in (p * 7 + 3) (s.length : Int) (by omega) (by omega)
   have q1 := rd_byte s hs _ i1.1 i1.2
   have q2 := rd_byte s hs _ i2.1 i2.2
   have dv := tdiv_in p (s.length : Int) hp (by omega)
   obtain ⟨a, ha⟩ : ∃ a, a = rd s (Int.tmod p (s.length : Int)) := ⟨_, rfl⟩
   obtain ⟨b, hb⟩ : ∃ b, b = rd s (Int.tmod (p * 7 + 3) (s.length : Int)) := ⟨_, rfl⟩
   obtain ⟨d, hd⟩ : ∃ d, d = Int.tdiv p (s.length : Int) := ⟨_, rfl⟩
   rw [← ha] at q1
   rw [← hb] at q2
   rw [← hd] at dv
   have wa : wrap64 a = a := wrap_id (by omega) (by omega)
   have wb : wrap64 b = b := wrap_id (by omega) (by omega)
   have wa1 : wrap64 (a * 131) = a * 131 := wrap_id (by omega) (by omega)
   have wb1 : wrap64 (b * 1117) = b * 1117 := wrap_id (by omega) (by omega)
   have wab : wrap64 (a * 131 + b * 1117) = a * 131 + b * 1117 := wrap_id (by omega) (by omega)
   have wp : wrap64 (p * 29) = p * 29 := wrap_id (by omega) (by omega)
   have wabp : wrap64 (a * 131 + b * 1117 + p * 29) = a * 131 + b * 1117 + p * 29 := wrap_id (by omega) (by omega)
   have wd0 : wrap64 d = d := wrap_id (by omega) (by omega)
   have wd : wrap64 (d * 53) = d * 53 := wrap_id (by omega) (by omega)
   have wx : wrap64 (a * 131 + b * 1117 + p * 29 + d * 53) = a * 131 + b * 1117 + p * 29 + d * 53 := wrap_id (by omega) (by omega)
   have dx := tdiv_in (a * 131 + b * 1117 + p * 29 + d * 53) 64 (by omega) (by omega)
   have wdx : wrap64 (Int.tdiv (a * 131 + b * 1117 + p * 29 + d * 53) 64) = Int.tdiv (a * 131 + b * 1117 + p * 29 + d * 53) 64 := wrap_id (by omega) (by omega)
   have hx := xor_nonneg (a * 131 + b * 1117 + p * 29 + d * 53) (Int.tdiv (a * 131 + b * 1117 + p * 29 + d * 53) 64) (by omega) (by omega) dx.1 (by omega)
   have hm := tmod_in _ n hx hn
   refine ⟨_, hm.1, hm.2, fun k => ?_⟩
   rw [spec_l12Rd_pick.f, if_neg (by omega), spec_l12Rd_pick.j0, hz', if_neg (by decide), e1, e2, if_neg hlt, if_neg (by omega), w7, w73, if_pos i1.1, if_pos i1.2, if_pos i2.1, if_pos i2.2, if_neg (by omega), ← ha, ← hb, ← hd]
   simp only [wa, wb, wa1, wb1, wab, wp, wabp, wd0, wd, wx, wdx]
end Go.Proofs.YtendbgedpjcocaaGreatDoor.B
/- impl's memory: a place's address, the number at a place. -/
namespace Go.Proofs.YtendbgedpjcocaaGreatDoor.B
open Go.RowKit Go.Proofs.YtendbgedpjcocaaGreatDoorW.PrintWords Go.Proofs.YtendbgedpjcocaaGreatDoorW.PrintLast Go.Proofs.YtendbgedpjcocaaGreatDoorW.PrintMore
set_option linter.unusedVariables false

theorem addr_cases {k a : Int} (h : addrOkL k a = true) : (k = 1 ∨ k = 2 ∨ k = 3) ∧ (a = 0 ∨ a = 1 ∨ a = 2 ∨ a = 3 ∨ a = 4 ∨ a = 5) := by
 unfold addrOkL at h
 have := of_decide_eq_true h
 omega
set_option maxRecDepth 100000 in
set_option maxHeartbeats 4000000 in
theorem place_any (g : Nat) (k a : Int) (w : World) (h : addrOkL k a = true) : Calls Tryz.prog 79 #[.pointer (some ⟨g, 0, none⟩), .agg #[.int .i64 k, .int .i64 a]] w fun e w' => e = .returned (.pointer (some ⟨g, ((k - 1) * 6 + a).toNat, none⟩)) ∧ Below w.heap.size w w' := by
 have HB := Aside0.mk (Below.refl w.heap.size w)
 obtain ⟨hk, ha⟩ := addr_cases h
 clear h
 rcases hk with rfl | rfl | rfl <;> rcases ha with rfl | rfl | rfl | rfl | rfl | rfl
 all_goals
  go_enter Tryz.func79, Tryz.ntmps79
  go_wp2
  go_quiet (fail)
  go_wp2
  go_ret
  exact ⟨rfl, by repeat (first | (with_reducible first | exact HB.out | apply below_alloc | apply pw_below_drewN | apply below_drew1) | exact HB.out)⟩
/-- The number at a place of a memory's 18. -/
def getL (bs : List Int) (k a : Int) : Int := if addrOkL k a then bs.getD ((k - 1) * 6 + a).toNat 0 else 0
structure MemAt (w : World) (g : Nat) (bs : List Int) : Prop where
 b : w.heap[g]? = some (.cells (bs.map (Value.int .i64)).toArray 100 (0, 0))
 n : bs.length = 18
theorem MemAt.below {w w' : World} {g : Nat} {bs : List Int} (h : MemAt w g bs) (hb : Below w.heap.size w w') : MemAt w' g bs := ⟨(hb.block g (blk_lt h.b)).trans h.b, h.n⟩
theorem MemAt.cell {w : World} {g : Nat} {bs : List Int} (h : MemAt w g bs) (i : Nat) (hi : i < 18) : w.cell? ⟨g, i, none⟩ = some (.int .i64 (bs.getD i 0)) := by
 have hl := h.n
 rw [blk_cell h.b]
 simp [List.getD_eq_getElem?_getD, List.getElem?_eq_getElem (show i < bs.length by omega)]
set_option maxRecDepth 100000 in
set_option maxHeartbeats 4000000 in
theorem get_any (g : Nat) (bs : List Int) (k a : Int) (w : World) (hm : MemAt w g bs) : Calls Tryz.prog 59 #[.pointer (some ⟨g, 0, none⟩), .agg #[.int .i64 k, .int .i64 a]] w fun e w' => e = .returned (.int .i64 (getL bs k a)) ∧ Below w.heap.size w w' := by
 have hb0 := heap_alloc_new w (.cells #[.int .i64 k, .int .i64 a] 24)
 have hB0 : Below w.heap.size w (w.alloc (.cells #[.int .i64 k, .int .i64 a] 24)) := (Below.refl _ _).alloc (Nat.le_refl _) _
 have HM := Aside0.mk (And.intro hm (And.intro hb0 hB0))
 clear hm hb0 hB0
 cases hv : addrOkL k a with
 | false =>
  have HV := Aside0.mk hv; clear hv
  go_enter Tryz.func59, Tryz.ntmps59
  go_wp2_with fail
  refine (addrOk_any _ _ _).mono ?_
  rintro e w1 ⟨rfl, hb1⟩
  rw [HV.out]
  have HB := Aside0.mk (HM.out.2.2.trans (hb1.mono HM.out.2.2.size)); clear hb1
  go_wp2
  go_ret
  exact ⟨by rw [getL, HV.out]; rfl, HB.out⟩
 | true =>
  obtain ⟨hk, ha⟩ := addr_cases hv
  have hlt : ((k - 1) * 6 + a).toNat < 18 := by omega
  have HV := Aside0.mk (And.intro hv hlt); clear hv hk ha hlt
  go_enter Tryz.func59, Tryz.ntmps59
  go_wp2_with fail
  refine (addrOk_any _ _ _).mono ?_
  rintro e w1 ⟨rfl, hb1⟩
  rw [HV.out.1]
  have k1 := (hb1.block _ (blk_lt HM.out.2.1)).trans HM.out.2.1
  have c0 : w1.cell? ⟨w.heap.size, 0, none⟩ = some (.int .i64 k) := by rw [blk_cell k1]; rfl
  have c1 : w1.cell? ⟨w.heap.size, 1, none⟩ = some (.int .i64 a) := by rw [blk_cell k1]; rfl
  have HB := Aside0.mk (HM.out.2.2.trans (hb1.mono HM.out.2.2.size)); clear hb1 k1
  go_wp2_with fail
  refine (place_any g k a w1 HV.out.1).mono ?_
  rintro e w2 ⟨rfl, hb2⟩
  have hB2 := HB.out.trans (hb2.mono HB.out.size)
  have d := (HM.out.1.below hB2).cell _ HV.out.2
  have HB2 := Aside0.mk hB2; clear hb2 hB2 c0 c1
  go_wp2
  go_ret
  exact ⟨by rw [getL, HV.out.1]; rfl, HB2.out⟩

def twoI (k a b : Int) : Int := (impl_two.f k a b).getD 0
theorem two_some (k a b : Int) : impl_two.f k a b = some (twoI k a b) := by
 have : ∃ r, impl_two.f k a b = some r := by
  unfold impl_two.f impl_NumAdd.f impl_NumSub.f impl_NumMul.f impl_maker_of.f impl_NumCut.f impl_NumIs.f impl_NumOn.f
  simp only [Option.bind_some]
  repeat' split
  all_goals simp
 obtain ⟨r, h⟩ := this
 rw [twoI, h]; rfl
/-- What something that is ok comes to. -/
def evalI (bs : List Int) : Ex → Int
 | ⟨k, n, a, l⟩ => if k = 1 then n else if k = 2 then getL bs a.f0 a.f1 else
  if k = 10 then (if (l.attach.map fun x => evalI bs x.1).getD 0 0 = 0 then 1 else 0) else twoI k ((l.attach.map fun x => evalI bs x.1).getD 0 0) ((l.attach.map fun x => evalI bs x.1).getD 1 0)
termination_by e => SizeOf.sizeOf e
decreasing_by all_goals have := List.sizeOf_lt_of_mem x.2; simp; omega
theorem evalI_eq (bs : List Int) (e : Ex) : evalI bs e = if e.f0 = 1 then e.f1 else if e.f0 = 2 then getL bs e.f2.f0 e.f2.f1 else
  if e.f0 = 10 then (if (e.f3.map (evalI bs)).getD 0 0 = 0 then 1 else 0) else twoI e.f0 ((e.f3.map (evalI bs)).getD 0 0) ((e.f3.map (evalI bs)).getD 1 0) := by
 cases e with
 | mk k n a l => rw [evalI]; simp
end Go.Proofs.YtendbgedpjcocaaGreatDoor.B
/- impl.reckon: what something that is ok comes to. -/
namespace Go.Proofs.YtendbgedpjcocaaGreatDoor.B
open Go.RowKit Go.Proofs.YtendbgedpjcocaaGreatDoorW.PrintWords Go.Proofs.YtendbgedpjcocaaGreatDoorW.PrintLast Go.Proofs.YtendbgedpjcocaaGreatDoorW.PrintMore
set_option linter.unusedVariables false

theorem meth_of1 : ∀ w, (method 299 138 (.agg #[]) "loop.example/stopgate/impl.of").run Tryz.prog w = .ok (135, .agg #[]) w := fun _ => by kernel_rfl
theorem meth_of2 : ∀ w, (method 299 139 (.agg #[]) "loop.example/stopgate/impl.of").run Tryz.prog w = .ok (139, .agg #[]) w := fun _ => by kernel_rfl
theorem meth_of3 : ∀ w, (method 299 140 (.agg #[]) "loop.example/stopgate/impl.of").run Tryz.prog w = .ok (143, .agg #[]) w := fun _ => by kernel_rfl
theorem meth_of4 : ∀ w, (method 299 141 (.agg #[]) "loop.example/stopgate/impl.of").run Tryz.prog w = .ok (153, .agg #[]) w := fun _ => by kernel_rfl

theorem two_blocks' (w : World) (a b : Obj) : ((w.alloc a).alloc b).heap.size = w.heap.size + 1 + 1 ∧ ((w.alloc a).alloc b).heap[w.heap.size]? = some a ∧ ((w.alloc a).alloc b).heap[w.heap.size + 1]? = some b ∧ Below w.heap.size w ((w.alloc a).alloc b) := by
 have s1 : (w.alloc a).heap.size = w.heap.size + 1 := by simp
 have s2 : ((w.alloc a).alloc b).heap.size = w.heap.size + 1 + 1 := by simp
 refine ⟨s2, ?_, ?_, ((Below.refl w.heap.size w).alloc (Nat.le_refl _) _).alloc (by omega) _⟩
 ·rw [Below.heap_alloc _ _ _ (by omega)]; exact heap_alloc_new w a
 ·rw [← s1]; exact heap_alloc_new _ b
theorem two_of_len : ∀ (l : List Ex) (h : l.length = 2), l = [l[0], l[1]]
 | [a, b], _ => rfl
/-- The cells of one of the parts within. -/
theorem kid_at {w : World} {A : Option Addr} {l : List Ex} (h : Kd.C exK w A l.length l) (j : Nat) (hj : j < l.length) : ∃ ad A4 c4, A = some ad ∧ w.cell? (ad.add (j * 5)) = some (.int .i64 l[j].f0) ∧ w.cell? ⟨(ad.add (j * 5)).block, (ad.add (j * 5)).off + 1, none⟩ = some (.int .i64 l[j].f1) ∧
  w.cell? ⟨(ad.add (j * 5)).block, (ad.add (j * 5)).off + 2, none⟩ = some (.int .i64 l[j].f2.f0) ∧ w.cell? ⟨(ad.add (j * 5)).block, (ad.add (j * 5)).off + 3, none⟩ = some (.int .i64 l[j].f2.f1) ∧ w.cell? ⟨(ad.add (j * 5)).block, (ad.add (j * 5)).off + 4, none⟩ = some (.slice A4 l[j].f3.length c4) ∧ l[j].f3.length ≤ c4 ∧ Kd.C exK w A4 l[j].f3.length l[j].f3 := by
 obtain ⟨ad, A4, c4, hA, e0, e1, e2, e3, e4, hl4, hi4⟩ := at_T27 h (j : Int) (by omega) (by omega)
 have hkid : rd_T27 l (j : Int) = l[j] := by simp [rd_T27, hj]
 rw [hkid] at e0 e1 e2 e3 e4 hl4 hi4
 simp only [Int.toNat_natCast] at e0 e1 e2 e3 e4
 exact ⟨ad, A4, c4, hA, e0, e1, e2, e3, e4, hl4, hi4⟩
theorem numIs_any (b : Bool) (w : World) : Calls Tryz.prog 150 #[.bool b] w fun e w' => e = .returned (.int .i64 (if b then 1 else 0)) ∧ Below w.heap.size w w' :=
 (impl_NumIs.calls b _ w (by unfold impl_NumIs.f; cases b <;> rfl)).mono fun e w' h => ⟨h.1, h.2.below⟩
theorem numOn_any (n : Int) (w : World) : Calls Tryz.prog 22 #[.int .i64 n] w fun e w' => e = .returned (.bool (n != 0)) ∧ Below w.heap.size w w' :=
 (impl_NumOn.calls n _ w rfl).mono fun e w' h => ⟨h.1, h.2.below⟩
/-- What reckon answers of e. -/
def RkPost (bs : List Int) (e : Ex) (w : World) (en : Ending) (w' : World) : Prop := en = .returned (.int .i64 (evalI bs e)) ∧ Below w.heap.size w w'
def Rk (f : Nat) (pre : Array Value) (bs : List Int) (e : Ex) : Prop := ∀ (g : Nat) (A : Option Addr) (c : Nat) (w : World), MemAt w g bs → Kd.C exK w A e.f3.length e.f3 → e.f3.length ≤ c →
 Calls Tryz.prog f (pre ++ #[.pointer (some ⟨g, 0, none⟩), .agg #[.int .i64 e.f0, .int .i64 e.f1, .int .i64 e.f2.f0, .int .i64 e.f2.f1, .slice A e.f3.length c]]) w (RkPost bs e w)

set_option maxRecDepth 100000 in
theorem of1 (bs : List Int) (e : Ex) (h1 : e.f0 = 1) : Rk 135 #[.agg #[]] bs e := by
 intro g A c w hm hC hc
 have HV := Aside0.mk (show evalI bs e = e.f1 by rw [evalI_eq, if_pos h1])
 have HB := Aside0.mk (Below.refl w.heap.size w)
 clear hm hC hc h1
 simp only [List.append_toArray, List.nil_append, List.cons_append]
 go_enter Tryz.func135, Tryz.ntmps135
 go_wp2
 go_ret
 exact ⟨by rw [HV.out]; rfl, by repeat (first | (with_reducible first | exact HB.out | apply below_alloc | apply pw_below_drewN | apply below_drew1) | exact HB.out)⟩
set_option maxRecDepth 100000 in
theorem of2 (bs : List Int) (e : Ex) (h2 : e.f0 = 2) : Rk 139 #[.agg #[]] bs e := by
 intro g A c w hm hC hc
 have HV := Aside0.mk (show evalI bs e = getL bs e.f2.f0 e.f2.f1 by rw [evalI_eq, if_neg (by omega), if_pos h2])
 have HM := Aside0.mk hm
 have HB := Aside0.mk (Below.refl w.heap.size w)
 clear hm hC hc h2
 simp only [List.append_toArray, List.nil_append, List.cons_append]
 go_enter Tryz.func139, Tryz.ntmps139
 go_wp2_with fail
 obtain ⟨hs, k1, k2, hB0⟩ := two_blocks' w (.cells #[] 139 (0, 0)) (.cells #[.int .i64 e.f0, .int .i64 e.f1, .int .i64 e.f2.f0, .int .i64 e.f2.f1, .slice A e.f3.length c] 27 (0, 0))
 refine (get_any g bs _ _ _ (HM.out.below hB0)).mono ?_
 rintro en w1 ⟨rfl, hb1⟩
 have HB1 := Aside0.mk (hB0.trans (hb1.mono hB0.size))
 clear hb1 hB0 hs k1 k2
 go_wp2
 go_ret
 exact ⟨by rw [HV.out]; rfl, HB1.out⟩
set_option maxRecDepth 100000 in
set_option maxHeartbeats 4000000 in
theorem of4 (bs : List Int) (e : Ex) (h10 : e.f0 = 10) (hl : e.f3.length = 1) (ih : ∀ x ∈ e.f3, Rk 49 #[] bs x) : Rk 153 #[.agg #[]] bs e := by
 intro g A c w hm hC hc
 have hC0 := hC
 rw [hl] at hc ⊢
 obtain ⟨hs, k1, k2, hB0⟩ := two_blocks' w (.cells #[] 141 (0, 0)) (.cells #[.int .i64 e.f0, .int .i64 e.f1, .int .i64 e.f2.f0, .int .i64 e.f2.f1, .slice A 1 c] 27 (0, 0))
 obtain ⟨ad, A4, c4, rfl, e0, e1, e2, e3, e4, hl4, hi4⟩ := kid_at (Kd.C_below hC hB0) 0 (by omega)
 have hcall := ih e.f3[0] (List.getElem_mem (by omega)) g A4 c4 _ (hm.below hB0) hi4 hl4
 obtain ⟨kid, hkd⟩ : ∃ kid, kid = e.f3[0] := ⟨_, rfl⟩
 rw [← hkd] at e0 e1 e2 e3 e4 hl4 hi4 hcall
 have HV := Aside0.mk (show evalI bs e = if evalI bs kid = 0 then 1 else 0 by
  have : e.f3 = [kid] := by
   rw [hkd]; exact List.ext_getElem (by simp [hl]) (fun i h1 h2 => by simp at h2; subst h2; rfl)
  rw [evalI_eq, if_neg (by omega), if_neg (by omega), if_pos h10, this]; rfl)
 simp only [List.append_toArray, List.nil_append] at hcall
 have HC := Aside0.mk hcall
 have HB0 := Aside0.mk hB0
 clear ih hcall hm hC hC0 hkd hl4 hi4 hB0 k1 k2 hs hl h10
 simp only [Nat.zero_mul, show ad.add 0 = ad by simp [Addr.add]] at e0 e1 e2 e3 e4
 simp only [List.append_toArray, List.nil_append, List.cons_append]
 go_enter Tryz.func153, Tryz.ntmps153
 go_wp2_with fail
 refine HC.out.mono ?_
 clear HC
 rintro en w1 ⟨rfl, hb1⟩
 have HB1 := Aside0.mk (HB0.out.trans (hb1.mono HB0.out.size))
 clear hb1 e0 e1 e2 e3 e4
 go_wp2_with fail
 refine (numOn_any _ _).mono ?_
 rintro en w2 ⟨rfl, hb2⟩
 have HB2 := Aside0.mk (HB1.out.trans (hb2.mono HB1.out.size))
 clear hb2
 obtain ⟨v, hv⟩ : ∃ v, v = evalI bs kid := ⟨_, rfl⟩
 rw [← hv] at HV ⊢
 clear hv
 by_cases hz : v = 0
 ·subst hz
  go_wp2_with fail
  refine (numIs_any _ _).mono ?_
  rintro en w3 ⟨rfl, hb3⟩
  have HB3 := Aside0.mk (HB2.out.trans (hb3.mono HB2.out.size))
  clear hb3
  go_wp2
  go_ret
  exact ⟨by rw [HV.out]; rfl, HB3.out⟩
 ·have hz1 : (v != 0) = true := by simp [hz]
  have HZ := Aside0.mk hz; clear hz
  go_wp2_with fail
  refine (numIs_any _ _).mono ?_
  rintro en w3 ⟨rfl, hb3⟩
  have HB3 := Aside0.mk (HB2.out.trans (hb3.mono HB2.out.size))
  clear hb3
  go_wp2
  go_ret
  exact ⟨by rw [HV.out, if_neg HZ.out]; rfl, HB3.out⟩
set_option maxRecDepth 100000 in
set_option maxHeartbeats 4000000 in
theorem of3 (bs : List Int) (e : Ex) (h39 : 3 ≤ e.f0 ∧ e.f0 ≤ 9) (hl : e.f3.length = 2) (ih : ∀ x ∈ e.f3, Rk 49 #[] bs x) : Rk 143 #[.agg #[]] bs e := by
 intro g A c w hm hC hc
 have hC0 := hC
 rw [hl] at hc ⊢
 obtain ⟨hs, k1, k2, hB0⟩ := two_blocks' w (.cells #[] 140 (0, 0)) (.cells #[.int .i64 e.f0, .int .i64 e.f1, .int .i64 e.f2.f0, .int .i64 e.f2.f1, .slice A 2 c] 27 (0, 0))
 obtain ⟨ad, A4, c4, hA, e0, e1, e2, e3, e4, hl4, hi4⟩ := kid_at (Kd.C_below hC hB0) 0 (by omega)
 obtain ⟨ad', A5, c5, hA', g0, g1, g2, g3, g4, ml4, mi4⟩ := kid_at (Kd.C_below hC hB0) 1 (by omega)
 subst hA
 cases hA'
 have ih0 := ih e.f3[0] (List.getElem_mem (by omega))
 have ih1 := ih e.f3[1] (List.getElem_mem (by omega))
 obtain ⟨k0, hk0⟩ : ∃ kid, kid = e.f3[0] := ⟨_, rfl⟩
 obtain ⟨k1', hk1⟩ : ∃ kid, kid = e.f3[1] := ⟨_, rfl⟩
 rw [← hk0] at e0 e1 e2 e3 e4 hl4 hi4 ih0
 rw [← hk1] at g0 g1 g2 g3 g4 ml4 mi4 ih1
 have HV := Aside0.mk (show evalI bs e = twoI e.f0 (evalI bs k0) (evalI bs k1') by
  have : e.f3 = [k0, k1'] := by rw [hk0, hk1]; exact two_of_len e.f3 hl
  rw [evalI_eq, if_neg (by omega), if_neg (by omega), if_neg (by omega), this]; rfl)
 simp only [Nat.zero_mul, show ad.add 0 = ad by simp [Addr.add]] at e0 e1 e2 e3 e4
 simp only [Nat.one_mul, show ad.add 5 = ⟨ad.block, ad.off + 5, none⟩ by simp [Addr.add]] at g0 g1 g2 g3 g4
 simp only [List.append_toArray, List.nil_append, List.cons_append]
 have q0 : ((w.alloc (.cells #[] 140)).alloc (.cells #[.int .i64 e.f0, .int .i64 e.f1, .int .i64 e.f2.f0, .int .i64 e.f2.f1, .slice (some ad) 2 c] 27)).cell? ⟨w.heap.size + 1, 0, none⟩ = some (.int .i64 e.f0) := by rw [blk_cell k2]; rfl
 have q4 : ((w.alloc (.cells #[] 140)).alloc (.cells #[.int .i64 e.f0, .int .i64 e.f1, .int .i64 e.f2.f0, .int .i64 e.f2.f1, .slice (some ad) 2 c] 27)).cell? ⟨w.heap.size + 1, 4, none⟩ = some (.slice (some ad) 2 c) := by rw [blk_cell k2]; rfl
 have hm0 := hm.below hB0
 simp only [Rk, List.append_toArray, List.nil_append] at ih0 ih1
 have HC := Aside0.mk (And.intro hB0 (And.intro hm0 (And.intro hi4 (And.intro hl4 (And.intro mi4 (And.intro ml4 (And.intro ih0 ih1)))))))
 have HQ := Aside0.mk (And.intro q0 (And.intro q4 (And.intro e0 (And.intro e1 (And.intro e2 (And.intro e3 (And.intro e4 (And.intro g0 (And.intro g1 (And.intro g2 (And.intro g3 g4)))))))))))
 clear ih ih0 ih1 hm hm0 hC hC0 hk0 hk1 hl4 hi4 ml4 mi4 hB0 k1 k2 hs hl h39 e0 e1 e2 e3 e4 g0 g1 g2 g3 g4 q0 q4
 go_enter Tryz.func143, Tryz.ntmps143
 go_wp2
 generalize (w.alloc (.cells #[] 140)).alloc (.cells #[.int .i64 e.f0, .int .i64 e.f1, .int .i64 e.f2.f0, .int .i64 e.f2.f1, .slice (some ad) 2 c] 27) = W0 at HC HQ ⊢
 obtain ⟨k1, hk1⟩ : ∃ k1, k1 = k1' := ⟨_, rfl⟩
 subst hk1
 have hold : ∀ W, Below W0.heap.size W0 W → W.cell? ⟨w.heap.size + 1, 0, none⟩ = some (.int .i64 e.f0) ∧ W.cell? ⟨w.heap.size + 1, 4, none⟩ = some (.slice (some ad) 2 c) ∧ W.cell? ad = some (.int .i64 k0.f0) ∧ W.cell? ⟨ad.block, ad.off + 1, none⟩ = some (.int .i64 k0.f1) ∧ W.cell? ⟨ad.block, ad.off + 2, none⟩ = some (.int .i64 k0.f2.f0) ∧ W.cell? ⟨ad.block, ad.off + 3, none⟩ = some (.int .i64 k0.f2.f1) ∧ W.cell? ⟨ad.block, ad.off + 4, none⟩ = some (.slice A4 k0.f3.length c4) ∧ W.cell? ⟨ad.block, ad.off + 5, none⟩ = some (.int .i64 k1.f0) ∧ W.cell? ⟨ad.block, ad.off + 5 + 1, none⟩ = some (.int .i64 k1.f1) ∧ W.cell? ⟨ad.block, ad.off + 5 + 2, none⟩ = some (.int .i64 k1.f2.f0) ∧ W.cell? ⟨ad.block, ad.off + 5 + 3, none⟩ = some (.int .i64 k1.f2.f1) ∧ W.cell? ⟨ad.block, ad.off + 5 + 4, none⟩ = some (.slice A5 k1.f3.length c5) ∧ Below W0.heap.size W0 W := fun W h => by
  obtain ⟨q0, q4, e0, e1, e2, e3, e4, g0, g1, g2, g3, g4⟩ := HQ.out
  exact ⟨(h.cell (World.block_lt_of_cell? W0 _ q0)).trans q0, (h.cell (World.block_lt_of_cell? W0 _ q4)).trans q4, (h.cell (World.block_lt_of_cell? W0 _ e0)).trans e0, (h.cell (World.block_lt_of_cell? W0 _ e1)).trans e1, (h.cell (World.block_lt_of_cell? W0 _ e2)).trans e2, (h.cell (World.block_lt_of_cell? W0 _ e3)).trans e3, (h.cell (World.block_lt_of_cell? W0 _ e4)).trans e4, (h.cell (World.block_lt_of_cell? W0 _ g0)).trans g0, (h.cell (World.block_lt_of_cell? W0 _ g1)).trans g1, (h.cell (World.block_lt_of_cell? W0 _ g2)).trans g2, (h.cell (World.block_lt_of_cell? W0 _ g3)).trans g3, (h.cell (World.block_lt_of_cell? W0 _ g4)).trans g4, h⟩
 have HH := Aside0.mk hold
 have HA := Aside0.mk (HC.out.2.2.2.2.2.2.1 g A4 c4 W0.drew (HC.out.2.1.below (below_drew (Below.refl _ W0))) (Kd.C_below HC.out.2.2.1 (below_drew (Below.refl _ W0))) HC.out.2.2.2.1)
 have hD : ∀ W, Below W0.heap.size W0 W → Calls Tryz.prog 49 #[.pointer (some ⟨g, 0, none⟩), .agg #[.int .i64 k1.f0, .int .i64 k1.f1, .int .i64 k1.f2.f0, .int .i64 k1.f2.f1, .slice A5 k1.f3.length c5]] W (RkPost bs k1 W) := fun W h => HC.out.2.2.2.2.2.2.2 g A5 c5 W (HC.out.2.1.below h) (Kd.C_below HC.out.2.2.2.2.1 h) HC.out.2.2.2.2.2.1
 have HD := Aside0.mk hD
 clear hold HQ hD
 go_region_held3 (fun W => W.cell? ⟨w.heap.size + 1, 0, none⟩ = some (.int .i64 e.f0) ∧ W.cell? ⟨w.heap.size + 1, 4, none⟩ = some (.slice (some ad) 2 c) ∧ W.cell? ad = some (.int .i64 k0.f0) ∧ W.cell? ⟨ad.block, ad.off + 1, none⟩ = some (.int .i64 k0.f1) ∧ W.cell? ⟨ad.block, ad.off + 2, none⟩ = some (.int .i64 k0.f2.f0) ∧ W.cell? ⟨ad.block, ad.off + 3, none⟩ = some (.int .i64 k0.f2.f1) ∧ W.cell? ⟨ad.block, ad.off + 4, none⟩ = some (.slice A4 k0.f3.length c4) ∧ W.cell? ⟨ad.block, ad.off + 5, none⟩ = some (.int .i64 k1.f0) ∧ W.cell? ⟨ad.block, ad.off + 5 + 1, none⟩ = some (.int .i64 k1.f1) ∧ W.cell? ⟨ad.block, ad.off + 5 + 2, none⟩ = some (.int .i64 k1.f2.f0) ∧ W.cell? ⟨ad.block, ad.off + 5 + 3, none⟩ = some (.int .i64 k1.f2.f1) ∧ W.cell? ⟨ad.block, ad.off + 5 + 4, none⟩ = some (.slice A5 k1.f3.length c5) ∧ Below W0.heap.size W0 W) (first | exact HH.out _ (below_drew (Below.refl _ _)) | exact HH.out _ HB1.out | exact HH.out _ HB2.out | exact HH.out _ HB3.out)
  (first
  | (go_at_call 49; (with_reducible refine HA.out.mono ?_); rintro en w1 ⟨rfl, hb1⟩; have HB1 : Aside0 (Below W0.heap.size W0 w1) := Aside0.mk ((below_drew (Below.refl _ W0)).trans hb1); clear hb1)
  | (go_at_call 49; (with_reducible refine (HD.out w1 HB1.out).mono ?_); rintro en w2 ⟨rfl, hb2⟩; have HB2 := Aside0.mk (HB1.out.trans (hb2.mono HB1.out.size)); clear hb2)
  | (go_at_call 146; refine (impl_two.calls _ _ _ _ w2 (two_some _ _ _)).mono ?_; rintro en w3 ⟨rfl, hb3⟩; have HB3 := Aside0.mk (HB2.out.trans (hb3.mono HB2.out.size)); clear hb3))
 go_wp2
 go_ret
 exact ⟨by rw [HV.out]; rfl, HC.out.1.trans (HB3.out.mono HC.out.1.size)⟩

structure OfIs (k : Int) (T fo : Nat) : Prop where
 v : kindV k = .iface T (.agg #[])
 mo : ∀ w, (method 299 T (.agg #[]) "loop.example/stopgate/impl.of").run Tryz.prog w = .ok (fo, .agg #[]) w
 eo : ∀ args w, (callFunc fo args).run Tryz.prog w = .ok (.enter fo args) w
set_option maxRecDepth 100000 in
set_option maxHeartbeats 4000000 in
theorem reckon_of (bs : List Int) (e : Ex) (T fo : Nat) (hO : OfIs e.f0 T fo) (co : Rk fo #[.agg #[]] bs e) : Rk 49 #[] bs e := by
 intro g A c w hm hC hc
 have k1 := heap_alloc_new w (.cells #[.int .i64 e.f0, .int .i64 e.f1, .int .i64 e.f2.f0, .int .i64 e.f2.f1, .slice A e.f3.length c] 27)
 have hB0 : Below w.heap.size w (w.alloc (.cells #[.int .i64 e.f0, .int .i64 e.f1, .int .i64 e.f2.f0, .int .i64 e.f2.f1, .slice A e.f3.length c] 27)) := (Below.refl _ _).alloc (Nat.le_refl _) _
 have hco := fun (W : World) (h : Below w.heap.size w W) => co g A c W (hm.below h) (Kd.C_below hC h) hc
 simp only [List.append_toArray, List.nil_append, List.cons_append] at hco
 have mo := hO.mo
 have eo := hO.eo
 have HV := Aside0.mk hO.v
 have HK := Aside0.mk (And.intro k1 hB0)
 have HC := Aside0.mk hco
 clear co hm hC hc k1 hB0 hco hO
 simp only [List.append_toArray, List.nil_append]
 go_enter Tryz.func49, Tryz.ntmps49
 go_wp2
 generalize w.alloc (.cells #[.int .i64 e.f0, .int .i64 e.f1, .int .i64 e.f2.f0, .int .i64 e.f2.f1, .slice A e.f3.length c] 27) = W0 at HK ⊢
 have hold : ∀ W, Below W0.heap.size W0 W → W.cell? ⟨w.heap.size, 0, none⟩ = some (.int .i64 e.f0) ∧ W.cell? ⟨w.heap.size, 1, none⟩ = some (.int .i64 e.f1) ∧ W.cell? ⟨w.heap.size, 2, none⟩ = some (.int .i64 e.f2.f0) ∧ W.cell? ⟨w.heap.size, 3, none⟩ = some (.int .i64 e.f2.f1) ∧ W.cell? ⟨w.heap.size, 4, none⟩ = some (.slice A e.f3.length c) ∧ Below W0.heap.size W0 W := fun W h => by
  have k1 := HK.out.1
  exact ⟨(h.cell (World.block_lt_of_cell? W0 _ ((blk_cell k1 0).trans rfl))).trans ((blk_cell k1 0).trans rfl), (h.cell (World.block_lt_of_cell? W0 _ ((blk_cell k1 1).trans rfl))).trans ((blk_cell k1 1).trans rfl), (h.cell (World.block_lt_of_cell? W0 _ ((blk_cell k1 2).trans rfl))).trans ((blk_cell k1 2).trans rfl), (h.cell (World.block_lt_of_cell? W0 _ ((blk_cell k1 3).trans rfl))).trans ((blk_cell k1 3).trans rfl), (h.cell (World.block_lt_of_cell? W0 _ ((blk_cell k1 4).trans rfl))).trans ((blk_cell k1 4).trans rfl), h⟩
 have HH := Aside0.mk hold
 clear hold
 go_region_held3 (fun W => W.cell? ⟨w.heap.size, 0, none⟩ = some (.int .i64 e.f0) ∧ W.cell? ⟨w.heap.size, 1, none⟩ = some (.int .i64 e.f1) ∧ W.cell? ⟨w.heap.size, 2, none⟩ = some (.int .i64 e.f2.f0) ∧ W.cell? ⟨w.heap.size, 3, none⟩ = some (.int .i64 e.f2.f1) ∧ W.cell? ⟨w.heap.size, 4, none⟩ = some (.slice A e.f3.length c) ∧ Below W0.heap.size W0 W) (first | exact HH.out _ (below_drew (Below.refl _ _)) | exact HH.out _ HB2.out)
  (first
  | (go_at_call 81; (with_reducible refine (reckoningOf_calls _ _).mono ?_); rintro en w1 ⟨rfl, rfl⟩; rw [HV.out])
  | ((with_reducible refine (HC.out _ (HK.out.2.trans ((below_drew (Below.refl _ W0)).mono HK.out.2.size))).mono ?_); rintro en w2 ⟨rfl, hb2⟩; have HB2 : Aside0 (Below W0.heap.size W0 w2) := Aside0.mk ((below_drew (Below.refl _ W0)).trans hb2); clear hb2))
 go_wp2
 go_ret
 exact ⟨rfl, HK.out.2.trans (HB2.out.mono HK.out.2.size)⟩

theorem reckon_any (bs : List Int) (d : Nat) : ∀ e : Ex, formS d e = true → Rk 49 #[] bs e := by
 induction d with
 | zero => intro e h; cases h
 | succ d ih =>
  intro e h
  rw [formS, Bool.and_eq_true] at h
  have hkids : ∀ x ∈ e.f3, Rk 49 #[] bs x := fun x hx => ih x (List.all_eq_true.1 h.2 x hx)
  have hh := h.1
  unfold headOk at hh
  simp only [Bool.and_eq_true, beq_iff_eq] at hh
  obtain ⟨⟨hk, hl⟩, hs⟩ := hh
  have hk' : 1 ≤ e.f0 ∧ e.f0 ≤ 10 := of_decide_eq_true hk
  by_cases h1 : e.f0 = 1
  ·exact reckon_of bs e _ _ ⟨by rw [h1]; rfl, meth_of1, enters_of Tryz.func135 (by kernel_rfl) rfl⟩ (of1 bs e h1)
  ·by_cases h2 : e.f0 = 2
   ·exact reckon_of bs e _ _ ⟨by rw [h2]; rfl, meth_of2, enters_of Tryz.func139 (by kernel_rfl) rfl⟩ (of2 bs e h2)
   ·by_cases h10 : e.f0 = 10
    ·have hl' : e.f3.length = 1 := by
      rw [kidsN, if_neg (by omega), if_neg (by omega)] at hl; omega
     exact reckon_of bs e _ _ ⟨by rw [h10]; rfl, meth_of4, enters_of Tryz.func153 (by kernel_rfl) rfl⟩ (of4 bs e h10 hl' hkids)
    ·have h39 : 3 ≤ e.f0 ∧ e.f0 ≤ 9 := by omega
     have hl' : e.f3.length = 2 := by
      rw [kidsN, if_neg (by omega), if_pos h39] at hl; omega
     exact reckon_of bs e _ _ ⟨by simp [kindV, h1, h2, h39], meth_of3, enters_of Tryz.func143 (by kernel_rfl) rfl⟩ (of3 bs e h39 hl' hkids)
end Go.Proofs.YtendbgedpjcocaaGreatDoor.B
/- slices.ContainsFunc over whole numbers, with readMem's own function. -/
namespace Go.Proofs.YtendbgedpjcocaaGreatDoor.B
open Go.RowKit Go.Proofs.YtendbgedpjcocaaGreatDoorW.PrintWords Go.Proofs.YtendbgedpjcocaaGreatDoorW.PrintLast Go.Proofs.YtendbgedpjcocaaGreatDoorW.PrintMore
set_option linter.unusedVariables false
set_option maxRecDepth 100000 in
theorem notNum_any (n : Int) (w : World) : Calls Tryz.prog 65 #[.int .i64 n] w fun e w' => e = .returned (.bool (!isNumL n)) ∧ Below w.heap.size w w' := by
 have HB := Aside0.mk (Below.refl w.heap.size w)
 go_enter Tryz.func65, Tryz.ntmps65
 go_wp2_with fail
 refine (isNum_any _ _).mono ?_
 rintro e w1 ⟨rfl, n1, rfl⟩
 go_wp2
 go_ret
 exact ⟨rfl, by repeat (first | (with_reducible first | exact HB.out | apply below_alloc | apply pw_below_drewN | apply below_drew1) | exact HB.out)⟩

theorem int_at {w : World} {A : Option Addr} {l : List Int} (h : Kd.C (Kd.int .i64) w A l.length l) (j : Nat) (hj : j < l.length) : ∃ ad, A = some ad ∧ w.cell? (ad.add j) = some (.int .i64 l[j]) := by
 obtain ⟨ad, cs, e, hg, hK, hc⟩ := Kd.C_get h 0 (j : Int) (by omega) (by omega)
 have hcs : cs = [.int .i64 (l.getD (j : Int).toNat 0)] := by
  first | exact hK | (obtain ⟨n, rfl⟩ := hK; rfl) | (obtain rfl := hK; rfl)
 refine ⟨ad, e, ?_⟩
 have := hc 0 _ (by rw [hcs]; rfl)
 simpa [hj, show (Kd.int .i64).sz = 1 from rfl] using this
def Pr (f : Nat) (p : Int → Bool) : Prop := ∀ (n : Int) (w : World), Calls Tryz.prog f #[.int .i64 n] w fun e w' => e = .returned (.bool (p n)) ∧ Below w.heap.size w w'
set_option maxRecDepth 100000 in
set_option maxHeartbeats 2000000 in
theorem indexFunc_any (f : Nat) (p : Int → Bool) (hf : Pr f p) (he : ∀ args w, (callFunc f args).run Tryz.prog w = .ok (.enter f args) w) (l : List Int) (A : Option Addr) (c : Nat) (w : World) (hC : Kd.C (Kd.int .i64) w A l.length l) (hc : l.length ≤ c) :
  Calls Tryz.prog 92 #[.slice A l.length c, .func (.func f) #[] #[]] w fun e w' => (∃ r : Int, decide (0 ≤ r) = l.any p ∧ e = .returned (.int .i64 r)) ∧ Below w.heap.size w w' := by
 have hmax : l.length ≤ 9223372036854775807 := hC.2.1
 go_enter Tryz.func92, Tryz.ntmps92
 go_wp2
 go_loopw [5, 8] (fun _ i wr => ∃ (j : Nat), i = .int .i64 j ∧ Aside0 (j ≤ l.length ∧ (l.take j).any p = false ∧ Below w.heap.size w wr)) (fun _ i _ => l.length - (intOf i).toNat)
 case atStart => exact ⟨0, rfl, ⟨Nat.zero_le _, by simp, Below.refl _ _⟩⟩
 case round =>
  obtain ⟨j, rfl, HR⟩ := hrel
  by_cases hj : j < l.length
  ·obtain ⟨ad, hA, e0⟩ := int_at hC j hj
   cases hA
   have hb := HR.out.2.2
   replace e0 := (hb.cell (World.block_lt_of_cell? w _ e0)).trans e0
   obtain ⟨x, hx⟩ : ∃ x, x = l[j] := ⟨_, rfl⟩
   rw [← hx] at e0
   have HX := Aside0.mk (And.intro hx hmax)
   have HJ := Aside0.mk hj
   have HC := Aside0.mk (hf x wr)
   clear hb hx hf
   go_wp2_with fail
   refine HC.out.mono ?_
   clear HC
   rintro e w1 ⟨rfl, hb1⟩
   have HB := Aside0.mk (HR.out.2.2.trans (hb1.mono HR.out.2.2.size))
   clear hb1
   cases hp : p x with
   | true =>
    have HP := Aside0.mk hp; clear hp
    go_wp2
    go_ret
    refine ⟨⟨j, ?_, rfl⟩, HB.out⟩
    have : l.any p = true := List.any_eq_true.2 ⟨l[j], List.getElem_mem HJ.out, by rw [← HX.out.1]; exact HP.out⟩
    rw [this]; simp
   | false =>
    have HP := Aside0.mk hp; clear hp
    go_wp2
    go_roundw
    case rel => exact ⟨j + 1, by go_num, ⟨HJ.out, by rw [List.take_succ_eq_append_getElem HJ.out, List.any_append, HR.out.2.1]; simp [← HX.out.1, HP.out], HB.out⟩⟩
    case measure => have := HJ.out; simp [intOf]; omega
  ·have hjl : j = l.length := by have := HR.out.1; omega
   have hn := HR.out.2.1
   rw [hjl, List.take_of_length_le (Nat.le_refl _)] at hn
   have HN := Aside0.mk hn; clear hn hjl
   go_wp2
   go_ret
   exact ⟨⟨-1, by rw [HN.out]; rfl, rfl⟩, HR.out.2.2⟩
set_option maxRecDepth 100000 in
theorem containsFunc_any (f : Nat) (p : Int → Bool) (hf : Pr f p) (he : ∀ args w, (callFunc f args).run Tryz.prog w = .ok (.enter f args) w) (l : List Int) (A : Option Addr) (c : Nat) (w : World) (hC : Kd.C (Kd.int .i64) w A l.length l) (hc : l.length ≤ c) :
  Calls Tryz.prog 64 #[.slice A l.length c, .func (.func f) #[] #[]] w fun e w' => e = .returned (.bool (l.any p)) ∧ Below w.heap.size w w' := by
 have HC := Aside0.mk (indexFunc_any f p hf he l A c w hC hc)
 clear hC hc hf
 go_enter Tryz.func64, Tryz.ntmps64
 go_wp2_with fail
 refine HC.out.mono ?_
 clear HC
 rintro e w1 ⟨⟨r, hr, rfl⟩, hb1⟩
 have HB := Aside0.mk (And.intro hr hb1)
 clear hr hb1
 go_wp2
 go_ret
 exact ⟨by rw [← HB.out.1]; rfl, HB.out.2⟩
end Go.Proofs.YtendbgedpjcocaaGreatDoor.B
