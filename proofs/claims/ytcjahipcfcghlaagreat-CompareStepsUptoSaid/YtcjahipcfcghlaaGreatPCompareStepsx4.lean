-- WRITTEN BY wip/xprint.py, a program of the proving session round the kit's print.py; Lean checks it.
import Derived.Test.YtcjahipcfcghlaaGreatPCompareStepsx0
import Derived.Test.YtcjahipcfcghlaaGreatPCompareStepsx2
import Derived.Test.YtcjahipcfcghlaaGreatPCompareStepsx3
namespace Go.Proofs.YtcjahipcfcghlaaGreat.PCompareSteps
open Go.Proofs.YtcjahipcfcghlaaGreatX
open Go.RowKit Go.Proofs.YtcjahipcfcghlaaGreatW.PrintWords Go.Proofs.YtcjahipcfcghlaaGreatW.PrintLast Go.Proofs.YtcjahipcfcghlaaGreatW.PrintMore
attribute [local go_sem] str_leq str_gtr max2_int min2_int max_two min_two max_three min_three max_four min_four   -- for this text's walks alone
set_option linter.unusedVariables false
set_option linter.unusedSimpArgs false

/-! ### satchellaw24_lives: function 5 -/
-- calls compare_Changes
theorem chUse_ : True := by
  have _ := @compare_Changes.calls
  trivial
section
open Go.Proofs.YtcjahipcfcghlaaGreatV
theorem otherS_eq (a b : S46) : otherS a b = if a.f1 = b.f1 then ((if a.f3 = b.f3 ∧ a.f4 = b.f4 then 0 else 8) + (if a.f2.f0 = b.f2.f0 ∧ a.f2.f1 = b.f2.f1 ∧ a.f2.f2 = b.f2.f2 ∧ a.f2.f3 = b.f2.f3 ∧ a.f2.f4 = b.f2.f4 then 0 else 16) + (if a.f5 = b.f5 then 0 else 32) : Int) else 4 := by
  obtain ⟨a0, a1, ⟨m0, m1, m2, m3, m4⟩, a3, a4, a5⟩ := a
  obtain ⟨b0, b1, ⟨n0, n1, n2, n3, n4⟩, b3, b4, b5⟩ := b
  have hs : (a5.toList = b5.toList) = (a5 = b5) := propext ⟨fun h => data_inj h, fun h => by rw [h]⟩
  unfold otherS compare_other.f
  simp only [compare_other.j0, compare_other.j1, hs]
  have hm : ((!(m0 == n0) || (!(m1 == n1) || (!(m2 == n2) || (!(m3 == n3) || (!(m4 == n4)))))) = true) = ¬ (m0 = n0 ∧ m1 = n1 ∧ m2 = n2 ∧ m3 = n3 ∧ m4 = n4) := by
    simp only [Bool.or_eq_true, Bool.not_eq_true', beq_eq_false_iff_ne, eq_iff_iff]
    constructor
    · rintro h ⟨rfl, rfl, rfl, rfl, rfl⟩
      simp at h
    · intro h
      by_cases e0 : m0 = n0 <;> by_cases e1 : m1 = n1 <;> by_cases e2 : m2 = n2 <;> by_cases e3 : m3 = n3 <;> by_cases e4 : m4 = n4 <;> simp_all
  simp only [hm]
  have w8 : wrap64 8 = 8 := by unfold wrap64; omega
  have w16 : wrap64 16 = 16 := by unfold wrap64; omega
  have w24 : wrap64 24 = 24 := by unfold wrap64; omega
  have w32 : wrap64 32 = 32 := by unfold wrap64; omega
  have w40 : wrap64 40 = 40 := by unfold wrap64; omega
  have w48 : wrap64 48 = 48 := by unfold wrap64; omega
  have w56 : wrap64 56 = 56 := by unfold wrap64; omega
  by_cases h1 : a1 = b1
  · by_cases h3 : a3 = b3
    · by_cases h4 : a4 = b4
      · by_cases h2 : m0 = n0 ∧ m1 = n1 ∧ m2 = n2 ∧ m3 = n3 ∧ m4 = n4 <;> by_cases h5 : a5 = b5 <;> simp [h1, h3, h4, h2, h5, w8, w16, w24, w32, w40, w48, w56]
      · by_cases h2 : m0 = n0 ∧ m1 = n1 ∧ m2 = n2 ∧ m3 = n3 ∧ m4 = n4 <;> by_cases h5 : a5 = b5 <;> simp [h1, h3, h4, h2, h5, w8, w16, w24, w32, w40, w48, w56]
    · by_cases h2 : m0 = n0 ∧ m1 = n1 ∧ m2 = n2 ∧ m3 = n3 ∧ m4 = n4 <;> by_cases h5 : a5 = b5 <;> simp [h1, h3, h2, h5, w8, w16, w24, w32, w40, w48, w56]
  · simp [h1]
def cellsM (x : S46) : List Value := [.string x.f0, .int .i64 x.f1, .int .u32 x.f2.f0, .int .u32 x.f2.f1, .int .u32 x.f2.f2, .int .i64 x.f2.f3, .int .i32 x.f2.f4, .int .i64 x.f3, .int .u64 x.f4, .string x.f5]
theorem flat10 {α : Type} (f : α → List Value) (hf : ∀ a, (f a).length = 10) : ∀ (l : List α) (j : Nat) (p : α) (i : Nat) (u : Value), l[j]? = some p → (f p)[i]? = some u → (l.flatMap f)[j * 10 + i]? = some u
  | [], j, p, i, u, h, _ => by simp at h
  | a :: l, 0, p, i, u, h, hu => by
    simp at h
    subst h
    rw [List.flatMap_cons, Nat.zero_mul, Nat.zero_add, List.getElem?_append_left (List.getElem?_eq_some_iff.1 hu).1]
    exact hu
  | a :: l, j + 1, p, i, u, h, hu => by
    rw [List.flatMap_cons, List.getElem?_append_right (by rw [hf]; omega), hf, show (j + 1) * 10 + i - 10 = j * 10 + i by omega]
    exact flat10 f hf l j p i u (by simpa using h) hu
theorem reads_marks {W : World} {b : Nat} {l : List S46} (hl : l.length ≤ 1000) (h : ∀ j u, (l.flatMap cellsM)[j]? = some u → W.cell? ⟨b, j, none⟩ = some u) : Kd.C k46 W (some ⟨b, 0, none⟩) l.length l :=
  ⟨rfl, by omega, fun _ => ⟨_, rfl, fun j p hj => ⟨cellsM p, rfl, k46_mk W p, fun i u hi => by
    have := h _ _ (flat10 cellsM (fun _ => rfl) l j p i u hj hi)
    rw [Addr.add_lit, Nat.zero_add]
    exact this⟩⟩⟩
def mA_ : S46 := ⟨⟨#[97]⟩, 2, ⟨0, 0, 0, 0, 0⟩, 1, sumX, ⟨#[]⟩⟩
def mB_ : S46 := ⟨⟨#[98]⟩, 2, ⟨0, 0, 0, 0, 0⟩, 1, sumX, ⟨#[97]⟩⟩
def nB_ : S46 := ⟨⟨#[98]⟩, 2, ⟨0, 0, 0, 0, 0⟩, 1, sumX, ⟨#[]⟩⟩
theorem chgAB_ : Chg [mA_, mB_] [nB_] [⟨⟨#[97]⟩, 2⟩, ⟨⟨#[98]⟩, 32⟩] where
  rise := by
    have h1 : (⟨#[97]⟩ : ByteArray).toList = [97] := bytes_list [97]
    have h2 : (⟨#[98]⟩ : ByteArray).toList = [98] := bytes_list [98]
    refine List.Pairwise.cons (fun x hx => ?_) (List.Pairwise.cons (fun x hx => by simp at hx) List.Pairwise.nil)
    simp at hx
    subst hx
    show (⟨#[97]⟩ : ByteArray).toList < (⟨#[98]⟩ : ByteArray).toList
    rw [h1, h2]
    decide
  mem := fun p => by
    obtain ⟨k, v⟩ := p
    have e0 : mapOfM [mA_, mB_] = [(⟨#[97]⟩, mA_), (⟨#[98]⟩, mB_)] := rfl
    have e1 : mapOfM [nB_] = [(⟨#[98]⟩, nB_)] := rfl
    have e2 : otherS mB_ nB_ = 32 := by rw [otherS_eq]; simp [mB_, nB_]
    have hab : (⟨#[97]⟩ : ByteArray) ≠ ⟨#[98]⟩ := by decide
    rw [e0, e1]
    unfold whatO
    simp only [aget]
    by_cases ha : (⟨#[97]⟩ : ByteArray) = k
    · subst ha
      simp [hab, hab.symm, eq_comm]
    · by_cases hb : (⟨#[98]⟩ : ByteArray) = k
      · subst hb
        simp [hab, e2, eq_comm]
      · simp [ha, hb, Ne.symm, eq_comm]
theorem changesAB_ : ChangesAB := by
  intro W ob oc n nc hoc hnc h0 h1
  have hr0 : Kd.C k46 W (some ⟨ob, 0, none⟩) 2 [mA_, mB_] := reads_marks (by simp) h0
  have hr1 : Kd.C k46 W (some ⟨n, 0, none⟩) 1 [nB_] := reads_marks (by simp) h1
  refine (ch.changes (some ⟨ob, 0, none⟩) (some ⟨n, 0, none⟩) oc nc [mA_, mB_] [nB_] W hr0 hr1 hoc hnc (by simp) (fun x hx => ?_)).mono ?_
  · simp at hx
    rcases hx with rfl | rfl | rfl <;> simp [mA_, mB_, nB_, maxLen] <;> decide
  · rintro e w' ⟨v, d, rfl, hR, hC, hB⟩
    rw [hC.unique chgAB_] at hR
    obtain ⟨inner, ho, hl, hp⟩ := hR.2
    have p0 := k27_openM (hp 0 _ rfl)
    have p1 := k27_openM (hp 1 _ rfl)
    refine ⟨v, rfl, ?_, hB⟩
    have hi : inner = [.string ⟨#[97]⟩, .int .i64 2, .string ⟨#[98]⟩, .int .i64 32] := by
      have hl4 : inner.length = 4 := hl
      have q0 : (inner.drop 0).take 2 = [.string ⟨#[97]⟩, .int .i64 2] := p0
      have q1 : (inner.drop 2).take 2 = [.string ⟨#[98]⟩, .int .i64 32] := p1
      match inner, hl4, q0, q1 with
      | [a, b, c, d], _, q0, q1 =>
        simp at q0 q1
        obtain ⟨rfl, rfl⟩ := q0
        obtain ⟨rfl, rfl⟩ := q1
        rfl
    rw [hi] at ho
    exact ho
end

def satchellaw24_lives.f : Option Bool := some true
theorem satchellaw24_lives.calls (r : Bool) (w : World) (h : satchellaw24_lives.f = some r) :
    Calls Tryz.prog 5 #[] w fun e w' => e = .returned (.bool r) ∧ Below w.heap.size w w' := by
  obtain rfl := Option.some.inj h
  exact Go.Proofs.YtcjahipcfcghlaaGreatV.lives_of changesAB_ w


end Go.Proofs.YtcjahipcfcghlaaGreat.PCompareSteps
