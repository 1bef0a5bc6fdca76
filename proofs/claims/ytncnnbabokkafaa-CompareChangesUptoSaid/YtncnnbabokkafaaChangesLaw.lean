/- The law CompareChanges: what compare.Changes tells is what the document tells; what was handed in stays. -/
import Derived.Test.YtncnnbabokkafaaEv
namespace Go.Proofs.Ytncnnbabokkafaa.ChangesLaw
open Go.RowKit Go.Proofs.Ytncnnbabokkafaa.PCompareChanges Go.Proofs.YtncnnbabokkafaaX Go.Proofs.YtncnnbabokkafaaV Go.Proofs.YtncnnbabokkafaaW.PrintWords Go.Proofs.YtncnnbabokkafaaW.PrintLast
set_option linter.unusedVariables false
set_option linter.unusedSimpArgs false
set_option linter.unusedSectionVars false

theorem rd_mem {l : List S33} {i : Nat} (h : i < l.length) : rd_T33 l (i : Int) = l[i] := by simp [rd_T33, h]
theorem rd_mem5 {l : List S35} {i : Nat} (h : i < l.length) : rd_T35 l (i : Int) = l[i] := by simp [rd_T35, h]

/-! ### last -/
def encL : Option S33 → ByteArray × Int × Int × Int × Int × Int × Int × Int × Int × ByteArray × Bool
  | some x => (x.f0, x.f1, x.f2.f0, x.f2.f1, x.f2.f2, x.f2.f3, x.f2.f4, x.f3, x.f4, x.f5, true)
  | none => ((⟨#[]⟩ : ByteArray), 0, 0, 0, 0, 0, 0, 0, 0, (⟨#[]⟩ : ByteArray), false)
theorem last0_ev (l : List S33) (hl : l.length ≤ 1048576) (key : ByteArray) : ∀ n : Nat, n ≤ l.length → Ev (fun k => satchelref24_last.l0 k l key ((n : Int) - 1)) (· = encL (aget key (mapOfM (l.take n))))
  | 0, hn => by
    refine Ev.succ ?_
    simp only [satchelref24_last.l0]
    refine Ev.ite (fun hh => absurd hh (by omega)) (fun _ => Ev.const ?_)
    simp [mapOfM, aget, encL]
  | n + 1, hn => by
    have hlt : n < l.length := by omega
    have e : ((n + 1 : Nat) : Int) - 1 = (n : Int) := by omega
    have e2 : wrap64 ((n : Int) - 1) = (n : Int) - 1 := w64 (by omega) (by omega)
    rw [e]
    refine Ev.succ ?_
    simp only [satchelref24_last.l0, rd_mem hlt, e2]
    rw [List.take_succ_eq_append_getElem hlt, mapOfM_snoc, aget_aset]
    refine Ev.ite (fun _ => ?_) (fun hh => absurd (by omega) hh)
    refine Ev.ite (fun _ => ?_) (fun hh => absurd (by omega) hh)
    refine Ev.ite (fun _ => ?_) (fun hh => absurd (by omega) hh)
    refine Ev.ite (fun hk => Ev.const ?_) (fun hk => ?_)
    · rw [if_pos (data_inj hk)]
      rfl
    · rw [if_neg (fun h => hk (by rw [h]))]
      exact last0_ev l hl key n (by omega)
theorem last_ev (l : List S33) (hl : l.length ≤ 1048576) (key : ByteArray) : Ev (fun k => satchelref24_last.f k l key) (· = encL (aget key (mapOfM l))) := by
  unfold satchelref24_last.f
  have e2 : wrap64 ((l.length : Int) - 1) = (l.length : Int) - 1 := w64 (by omega) (by omega)
  rw [e2]
  have := last0_ev l hl key l.length (Nat.le_refl _)
  rw [List.take_length] at this
  exact this

/-! ### what -/
theorem what_j1 (k : Nat) (x : Int) (a0 : ByteArray) (a1 a2 a3 a4 a5 a6 a7 a8 : Int) (a9 b0 : ByteArray) (b1 b2 b3 b4 b5 b6 b7 b8 : Int) (b9 : ByteArray) :
    satchelref24_what.j1 k x a0 a1 a2 a3 a4 a5 a6 a7 a8 a9 b0 b1 b2 b3 b4 b5 b6 b7 b8 b9 = compare_other.j1 k x a0 a1 a2 a3 a4 a5 a6 a7 a8 a9 b0 b1 b2 b3 b4 b5 b6 b7 b8 b9 := by
  cases k with
  | zero => rw [satchelref24_what.j1, compare_other.j1]
  | succ k => rw [satchelref24_what.j1, compare_other.j1]
theorem what_j0 (k : Nat) (x : Int) (c : Bool) (a0 : ByteArray) (a1 a2 a3 a4 a5 a6 a7 a8 : Int) (a9 b0 : ByteArray) (b1 b2 b3 b4 b5 b6 b7 b8 : Int) (b9 : ByteArray) :
    satchelref24_what.j0 k x c a0 a1 a2 a3 a4 a5 a6 a7 a8 a9 b0 b1 b2 b3 b4 b5 b6 b7 b8 b9 = compare_other.j0 k x c a0 a1 a2 a3 a4 a5 a6 a7 a8 a9 b0 b1 b2 b3 b4 b5 b6 b7 b8 b9 := by
  cases k with
  | zero => rw [satchelref24_what.j0, compare_other.j0]
  | succ k => rw [satchelref24_what.j0, compare_other.j0, what_j1, what_j1]
theorem other_ev (a b : S33) : Ev (fun k => compare_other.f k a.f0 a.f1 a.f2.f0 a.f2.f1 a.f2.f2 a.f2.f3 a.f2.f4 a.f3 a.f4 a.f5 b.f0 b.f1 b.f2.f0 b.f2.f1 b.f2.f2 b.f2.f3 b.f2.f4 b.f3 b.f4 b.f5) (· = otherS a b) := Ev.at 2 fun k hk => by
  obtain ⟨d, rfl⟩ := Nat.exists_eq_add_of_le hk
  clear hk
  induction d with
  | zero => exact other_f a b
  | succ d ih => exact compare_other.mono _ _ _ _ _ _ _ _ _ _ _ _ _ _ _ _ _ _ _ _ _ _ ih
def whatV : Option S33 → Option S33 → Int
  | none, _ => 1
  | some _, none => 2
  | some a, some b => otherS a b
theorem what_ev (old now : List S33) (ho : old.length ≤ 1048576) (hn : now.length ≤ 1048576) (key : ByteArray) : Ev (fun k => satchelref24_what.f k old now key) (· = whatV (aget key (mapOfM old)) (aget key (mapOfM now))) := by
  unfold satchelref24_what.f
  refine Ev.bind (last_ev old ho key) (Ev.bind (last_ev now hn key) ?_)
  cases aget key (mapOfM old) with
  | none => exact Ev.ite (fun h => by cases h) (fun _ => Ev.const rfl)
  | some a =>
    refine Ev.ite (fun _ => ?_) (fun h => absurd rfl h)
    cases aget key (mapOfM now) with
    | none => exact Ev.ite (fun h => by cases h) (fun _ => Ev.const rfl)
    | some b =>
      refine Ev.ite (fun _ => ?_) (fun h => absurd rfl h)
      have h := other_ev a b
      unfold compare_other.f at h
      simp only [what_j0]
      exact h
/-! ### with -/
def withS (c : S35) : List S35 → List S35
  | [] => [c]
  | y :: r => if y.f0.toList < c.f0.toList then y :: withS c r else if y.f0.toList = c.f0.toList then y :: r else c :: y :: r
abbrev RiseC (d : List S35) : Prop := d.Pairwise (fun x y => x.f0.toList < y.f0.toList)
theorem withS_mem {c p : S35} : ∀ {o : List S35}, (∀ y ∈ o, y.f0 = c.f0 → y = c) → (p ∈ withS c o ↔ p = c ∨ p ∈ o)
  | [], _ => by simp [withS]
  | y :: r, h => by
    unfold withS
    split
    · simp only [List.mem_cons, withS_mem (o := r) (fun z hz => h z (List.mem_cons_of_mem _ hz))]
      constructor
      · rintro (h | h | h)
        · exact .inr (.inl h)
        · exact .inl h
        · exact .inr (.inr h)
      · rintro (h | h | h)
        · exact .inr (.inl h)
        · exact .inl h
        · exact .inr (.inr h)
    · split
      · rename_i he
        have := h y (by simp) (data_inj he)
        subst this
        simp only [List.mem_cons]
        constructor
        · intro h; exact .inr h
        · rintro (h | h)
          · exact .inl h
          · exact h
      · simp only [List.mem_cons]
theorem withS_len (c : S35) : ∀ o : List S35, (withS c o).length ≤ o.length + 1
  | [] => by simp [withS]
  | y :: r => by
    unfold withS
    split
    · have := withS_len c r
      simp; omega
    · split <;> simp
theorem withS_sub {c z : S35} : ∀ {o : List S35}, z ∈ withS c o → z = c ∨ z ∈ o
  | [], h => by simp [withS] at h; exact .inl h
  | y :: r, h => by
    unfold withS at h
    split at h
    · rcases List.mem_cons.1 h with h | h
      · exact .inr (by rw [h]; simp)
      · rcases withS_sub h with h | h
        · exact .inl h
        · exact .inr (List.mem_cons_of_mem _ h)
    · split at h
      · exact .inr h
      · rcases List.mem_cons.1 h with h | h
        · exact .inl h
        · exact .inr h
theorem withS_rise {c : S35} : ∀ {o : List S35}, RiseC o → RiseC (withS c o)
  | [], _ => by simp [withS, RiseC]
  | y :: r, h => by
    have h' := h
    unfold RiseC at h
    rw [List.pairwise_cons] at h
    unfold withS
    split
    · rename_i hlt
      unfold RiseC
      rw [List.pairwise_cons]
      refine ⟨fun z hz => ?_, withS_rise h.2⟩
      rcases withS_sub hz with rfl | hz
      · exact hlt
      · exact h.1 z hz
    · rename_i hlt
      split
      · exact h'
      · rename_i hne
        have hxy : c.f0.toList < y.f0.toList := by
          refine Decidable.byContradiction fun hc => hne ?_
          exact List.le_antisymm (List.not_lt.1 hc) (List.not_lt.1 hlt)
        unfold RiseC
        rw [List.pairwise_cons]
        refine ⟨fun z hz => ?_, h'⟩
        rcases List.mem_cons.1 hz with rfl | hz
        · exact hxy
        · exact List.lt_trans hxy (h.1 z hz)
theorem with0_ev (out : List S35) (ho : out.length ≤ 4194304) (c : S35) : ∀ (n j : Nat), j + n = out.length → out.take j ++ withS c (out.drop j) = withS c out →
    Ev (fun k => satchelref24_with.l0 k out (j : Int) c.f0 c.f1) (· = withS c out)
  | 0, j, hj, he => by
    refine Ev.succ ?_
    simp only [satchelref24_with.l0, Option.bind_some]
    refine Ev.ite (fun hh => absurd hh (by omega)) (fun _ => ?_)
    have hz : (List.take (j : Int).toNat out).length = j := by simp; omega
    have hf : ([] ++ List.take (j : Int).toNat out ++ [({ f0 := c.f0, f1 := c.f1 } : S35)]) ++ List.drop (j : Int).toNat out = withS c out := by
      rw [← he, Int.toNat_natCast, List.drop_eq_nil_of_le (by omega)]
      simp [withS]
    have hd : (List.drop (j : Int).toNat out).length = 0 := by simp; omega
    rw [hf]
    simp only [List.length_append, List.length_nil, List.length_singleton, hz, hd]
    refine Ev.ite (fun _ => ?_) (fun hh => absurd (by omega) hh)
    refine Ev.ite (fun _ => ?_) (fun hh => absurd (by omega) hh)
    refine Ev.ite (fun _ => ?_) (fun hh => absurd (by omega) hh)
    refine Ev.ite (fun _ => ?_) (fun hh => absurd (by omega) hh)
    refine Ev.ite (fun _ => ?_) (fun hh => absurd (by omega) hh)
    exact Ev.const rfl
  | n + 1, j, hj, he => by
    have hlt : j < out.length := by omega
    refine Ev.succ ?_
    simp only [satchelref24_with.l0, rd_mem5 hlt, Option.bind_some]
    have hd := List.drop_eq_getElem_cons hlt
    refine Ev.ite (fun _ => ?_) (fun hh => absurd (by omega) hh)
    refine Ev.ite (fun _ => ?_) (fun hh => absurd (by omega) hh)
    refine Ev.ite (fun hc => ?_) (fun hc => ?_)
    · rw [bytesLess_eq, decide_eq_true_eq] at hc
      rw [w_succ (by omega)]
      refine with0_ev out ho c n (j + 1) (by omega) ?_
      rw [← he, hd, withS, if_pos hc, List.take_succ_eq_append_getElem hlt, List.append_assoc]
      rfl
    · rw [bytesLess_eq, decide_eq_true_eq] at hc
      refine Ev.ite (fun he2 => Ev.const ?_) (fun hne => ?_)
      · rw [← he, hd, withS, if_neg hc, if_pos he2, ← hd, List.take_append_drop]
      · have hf : ([] ++ List.take (j : Int).toNat out ++ [({ f0 := c.f0, f1 := c.f1 } : S35)]) ++ List.drop (j : Int).toNat out = withS c out := by
          rw [← he, Int.toNat_natCast, hd, withS, if_neg hc, if_neg hne]
          simp
        have hz : (List.take (j : Int).toNat out).length = j := by simp; omega
        have hd2 : (List.drop (j : Int).toNat out).length = out.length - j := by simp
        rw [hf]
        simp only [List.length_append, List.length_nil, List.length_singleton, hz, hd2]
        refine Ev.ite (fun _ => ?_) (fun hh => absurd (by omega) hh)
        refine Ev.ite (fun _ => ?_) (fun hh => absurd (by omega) hh)
        refine Ev.ite (fun _ => ?_) (fun hh => absurd (by omega) hh)
        refine Ev.ite (fun _ => ?_) (fun hh => absurd (by omega) hh)
        exact Ev.const rfl
theorem with_ev (out : List S35) (ho : out.length ≤ 4194304) (c : S35) : Ev (fun k => satchelref24_with.f k out c.f0 c.f1) (· = withS c out) := with0_ev out ho c out.length 0 (by omega) (by simp)

/-! ### Changes, by definition -/
section
variable (old now : List S33) (ho : old.length ≤ 1048576) (hn : now.length ≤ 1048576)
/-- Of the names so far each is told. -/
structure Upto (pre : List S33) (d : List S35) : Prop where
  rise : RiseC d
  mem : ∀ p : S35, p ∈ d ↔ (∃ x ∈ pre, x.f0 = p.f0) ∧ whatO (mapOfM old) (mapOfM now) p.f0 = some p.f1
theorem here {x : S33} (h : x ∈ old ++ now) : aget x.f0 (mapOfM old) ≠ none ∨ aget x.f0 (mapOfM now) ≠ none := by
  have key : ∀ l : List S33, x ∈ l → aget x.f0 (mapOfM l) ≠ none := fun l hx h => aget_none_iff.1 h (mapOfM_keys.2 ⟨x, hx, rfl⟩)
  rcases List.mem_append.1 h with h | h
  · exact .inl (key _ h)
  · exact .inr (key _ h)
theorem whatO_V {x : S33} (h : x ∈ old ++ now) : whatO (mapOfM old) (mapOfM now) x.f0 = if whatV (aget x.f0 (mapOfM old)) (aget x.f0 (mapOfM now)) = 0 then none else some (whatV (aget x.f0 (mapOfM old)) (aget x.f0 (mapOfM now))) := by
  have h := here old now h
  unfold whatO
  generalize aget x.f0 (mapOfM old) = A at h ⊢
  generalize aget x.f0 (mapOfM now) = B at h ⊢
  cases A with
  | none => cases B with
    | none => rcases h with h | h <;> exact absurd rfl h
    | some b => rfl
  | some a => cases B with
    | none => rfl
    | some b => rfl
include ho hn
theorem changes0_ev : ∀ (n q : Nat) (out : List S35), q + n = (old ++ now).length → out.length ≤ q → Upto old now ((old ++ now).take q) out → Ev (fun k => satchelref24_Changes.l0 k old now out (old ++ now) (q : Int)) (Upto old now (old ++ now))
  | 0, q, out, hq, hl, hU => by
    refine Ev.succ ?_
    simp only [satchelref24_Changes.l0]
    refine Ev.ite (fun hh => absurd hh (by omega)) (fun _ => Ev.const ?_)
    rwa [List.take_of_length_le (by omega)] at hU
  | n + 1, q, out, hq, hl, hU => by
    have hlt : q < (old ++ now).length := by omega
    have hlen : (old ++ now).length ≤ 2097152 := by rw [List.length_append]; omega
    refine Ev.succ ?_
    simp only [satchelref24_Changes.l0, rd_mem hlt]
    obtain ⟨x, hx⟩ : ∃ x, (old ++ now)[q] = x := ⟨_, rfl⟩
    have hm : x ∈ old ++ now := hx ▸ List.getElem_mem hlt
    have hW := whatO_V old now hm
    have ht := List.take_succ_eq_append_getElem hlt
    rw [hx] at ht ⊢
    refine Ev.ite (fun _ => ?_) (fun hh => absurd (by omega) hh)
    refine Ev.ite (fun _ => ?_) (fun hh => absurd (by omega) hh)
    refine Ev.bind (what_ev old now ho hn x.f0) ?_
    obtain ⟨v, hv⟩ : ∃ v, whatV (aget x.f0 (mapOfM old)) (aget x.f0 (mapOfM now)) = v := ⟨_, rfl⟩
    rw [hv] at hW ⊢
    rw [w_succ (by omega)]
    refine Ev.ite (fun h0 => ?_) (fun h0 => ?_)
    · rw [if_pos h0] at hW
      refine changes0_ev n (q + 1) out (by omega) (by omega) ⟨hU.rise, fun p => ?_⟩
      rw [hU.mem, ht]
      constructor
      · rintro ⟨⟨y, hy, e⟩, h⟩
        exact ⟨⟨y, List.mem_append_left _ hy, e⟩, h⟩
      · rintro ⟨⟨y, hy, e⟩, h⟩
        rcases List.mem_append.1 hy with hy | hy
        · exact ⟨⟨y, hy, e⟩, h⟩
        · rw [List.mem_singleton.1 hy] at e
          rw [← e, hW] at h
          cases h
    · rw [if_neg h0] at hW
      refine Ev.bind (with_ev out (by omega) ⟨x.f0, v⟩) ?_
      have huniq : ∀ y ∈ out, y.f0 = (⟨x.f0, v⟩ : S35).f0 → y = ⟨x.f0, v⟩ := fun y hy e => by
        have := ((hU.mem y).1 hy).2
        have e' : y.f0 = x.f0 := e
        rw [e', hW] at this
        injection this with e2
        cases y
        simp only at e' e2
        rw [e', e2]
      have hwl := withS_len ⟨x.f0, v⟩ out
      refine changes0_ev n (q + 1) _ (by omega) (by omega) ⟨withS_rise hU.rise, fun p => ?_⟩
      rw [withS_mem huniq, hU.mem, ht]
      constructor
      · rintro (rfl | ⟨⟨y, hy, e⟩, h⟩)
        · exact ⟨⟨x, by simp, rfl⟩, hW⟩
        · exact ⟨⟨y, List.mem_append_left _ hy, e⟩, h⟩
      · rintro ⟨⟨y, hy, e⟩, h⟩
        rcases List.mem_append.1 hy with hy | hy
        · exact .inr ⟨⟨y, hy, e⟩, h⟩
        · rw [List.mem_singleton.1 hy] at e
          rw [← e, hW] at h
          injection h with h
          left
          cases p
          simp only at e h
          rw [e, h]
theorem changes_ev : Ev (fun k => satchelref24_Changes.f k old now) (· = changesS old now) := by
  unfold satchelref24_Changes.f
  simp only [Option.bind_some, List.nil_append, List.length_nil]
  refine Ev.ite (fun _ => ?_) (fun hh => absurd (by omega) hh)
  refine Ev.ite (fun _ => ?_) (fun hh => absurd (by omega) hh)
  refine (changes0_ev old now ho hn (old ++ now).length 0 [] (by omega) (by simp) ⟨by simp, fun p => by simp⟩).imp (fun d hU => ?_)
  refine Chg.unique (l0 := old) (l1 := now) ⟨hU.rise, fun p => ?_⟩ (changesS_is old now)
  rw [hU.mem]
  constructor
  · exact fun h => h.2
  · intro h
    refine ⟨?_, h⟩
    refine Classical.byContradiction fun hc => ?_
    have key : ∀ l : List S33, (∀ x ∈ l, x ∈ old ++ now) → aget p.f0 (mapOfM l) = none := fun l hl => aget_none_iff.2 (fun hk => by
      obtain ⟨x, hx, e⟩ := mapOfM_keys.1 hk
      exact hc ⟨x, hl x hx, e⟩)
    unfold whatO at h
    rw [key old (fun x hx => List.mem_append_left _ hx), key now (fun x hx => List.mem_append_right _ hx)] at h
    cases h
end

/-! ### the law -/
theorem same_ev (y : List S35) (hl : y.length ≤ 4194304) : ∀ (n i : Nat) (x : List S35), i + n = y.length → x.length = y.length → x.drop i = y.drop i → Ev (fun k => satchellaw24_sameChanges.l0 k x y (i : Int)) (· = true)
  | 0, i, x, hi, hx, hd => by
    refine Ev.succ ?_
    simp only [satchellaw24_sameChanges.l0]
    refine Ev.ite (fun hh => absurd hh (by omega)) (fun _ => Ev.ite (fun _ => Ev.const rfl) (fun hh => absurd (by omega) hh))
  | n + 1, i, x, hi, hx, hd => by
    have h1 : i < x.length := by omega
    have h2 : i < y.length := by omega
    rw [List.drop_eq_getElem_cons h1, List.drop_eq_getElem_cons h2] at hd
    injection hd with e1 e2
    refine Ev.succ ?_
    simp only [satchellaw24_sameChanges.l0, rd_mem5 h1, rd_mem5 h2, e1]
    refine Ev.ite (fun _ => ?_) (fun hh => absurd (by omega) hh)
    refine Ev.ite (fun _ => ?_) (fun hh => absurd (by omega) hh)
    refine Ev.ite (fun _ => ?_) (fun hh => absurd (by omega) hh)
    refine Ev.ite (fun hh => absurd hh (by simp)) (fun _ => ?_)
    rw [w_succ (by omega)]
    refine same_ev y hl n (i + 1) _ (by omega) (by rw [List.length_set]; exact hx) ?_
    rw [Int.toNat_natCast, List.drop_set_of_lt (by omega)]
    exact e2
abbrev behind : S33 := ⟨(⟨#[98, 101, 104, 105, 110, 100]⟩ : ByteArray), 0, (⟨0, 0, 0, 0, 0⟩ : S30), 0, 0, (⟨#[]⟩ : ByteArray)⟩
theorem hand_f (l : List S33) (hl : l.length ≤ 1048576) : satchellaw24_hand.f l = some (l ++ [behind]) := by
  unfold satchellaw24_hand.f
  simp only [Option.bind_some, List.nil_append, List.length_nil]
  rw [if_pos (by omega), if_pos (by omega)]
theorem left_ev (l : List S33) (hl : l.length ≤ 1048576) : ∀ (n i : Nat), i + n = l.length → Ev (fun k => satchellaw24_left.l0 k (l ++ [behind]) l (i : Int)) (· = true)
  | 0, i, hi => by
    have e2 : (l ++ [behind]).length = l.length + 1 := by simp
    have e3 : rd_T33 (l ++ [behind]) (l.length : Int) = behind := by
      rw [rd_mem (by omega)]
      simp
    refine Ev.succ ?_
    simp only [satchellaw24_left.l0, e3]
    refine Ev.ite (fun hh => absurd hh (by omega)) (fun _ => ?_)
    refine Ev.ite (fun _ => ?_) (fun hh => absurd (by omega) hh)
    refine Ev.ite (fun _ => Ev.const ?_) (fun hh => absurd (by omega) hh)
    rw [Lib.toList_data]
    rfl
  | n + 1, i, hi => by
    have h1 : i < l.length := by omega
    have e2 : (l ++ [behind]).length = l.length + 1 := by simp
    have e3 : rd_T33 (l ++ [behind]) (i : Int) = l[i] := by
      rw [rd_mem (by omega)]
      exact List.getElem_append_left h1
    refine Ev.succ ?_
    simp only [satchellaw24_left.l0, e3, rd_mem h1]
    refine Ev.ite (fun _ => ?_) (fun hh => absurd (by omega) hh)
    refine Ev.ite (fun _ => ?_) (fun hh => absurd (by omega) hh)
    refine Ev.ite (fun _ => ?_) (fun hh => absurd (by omega) hh)
    refine Ev.ite (fun hh => absurd hh (by simp)) (fun _ => ?_)
    rw [w_succ (by omega)]
    exact left_ev l hl n (i + 1) (by omega)
theorem law (a b : List S33) (ha : a.length ≤ 1048576) (hb : b.length ≤ 1048576) (hza : ∀ x ∈ a, x.f0.size ≤ maxLen) (hzb : ∀ x ∈ b, x.f0.size ≤ maxLen) : ∃ k, satchellaw24_CompareChanges.f k a b = some true := by
  have h : Ev (fun k => satchellaw24_CompareChanges.f k a b) (· = true) := by
    unfold satchellaw24_CompareChanges.f
    rw [hand_f a ha, hand_f b hb]
    simp only [Option.bind_some]
    have e : (a ++ [behind]).take ((a.length : Int) : Int).toNat = a := by simp
    have e2 : (a ++ [behind]).length = a.length + 1 := by simp
    have e3 : (b ++ [behind]).take ((b.length : Int) : Int).toNat = b := by simp
    have e4 : (b ++ [behind]).length = b.length + 1 := by simp
    have ec : compare_Changes.f a b = some (changesS a b) := by
      unfold compare_Changes.f
      rw [if_pos ⟨by omega, List.all_eq_true.2 (fun x hx => decide_eq_true (by
        rcases List.mem_append.1 hx with hx | hx
        · exact hza x hx
        · exact hzb x hx))⟩]
    rw [e, e2, e3, e4, ec]
    simp only [Option.bind_some]
    refine Ev.ite (fun _ => ?_) (fun hh => absurd (by omega) hh)
    refine Ev.ite (fun _ => ?_) (fun hh => absurd (by omega) hh)
    refine Ev.ite (fun _ => ?_) (fun hh => absurd (by omega) hh)
    refine Ev.ite (fun _ => ?_) (fun hh => absurd (by omega) hh)
    refine Ev.bind (changes_ev a b ha hb) ?_
    have hsl : (changesS a b).length ≤ 4194304 := by
      have h1 : (allS a b).length ≤ (akeys (mapOfM (a ++ b))).length := by unfold allS; exact List.length_filterMap_le _ _
      have h2 := mapOfM_len (a ++ b)
      rw [List.length_append] at h2
      unfold changesS
      rw [List.length_map, List.length_mergeSort, List.length_map]
      unfold akeys at h1
      rw [List.length_map] at h1
      omega
    have hsame : Ev (fun k => satchellaw24_sameChanges.f k (changesS a b) (changesS a b)) (· = true) := by
      unfold satchellaw24_sameChanges.f
      exact Ev.ite (fun _ => same_ev _ hsl (changesS a b).length 0 _ (by omega) rfl rfl) (fun hh => absurd rfl hh)
    refine Ev.bind hsame ?_
    refine Ev.ite (fun _ => ?_) (fun hh => absurd rfl hh)
    refine Ev.bind (show Ev (fun k => satchellaw24_left.f k (a ++ [behind]) a) (· = true) from left_ev a ha a.length 0 (by omega)) ?_
    refine Ev.ite (fun _ => ?_) (fun hh => absurd rfl hh)
    exact Ev.bind (show Ev (fun k => satchellaw24_left.f k (b ++ [behind]) b) (· = true) from left_ev b hb b.length 0 (by omega)) (Ev.const rfl)
  obtain ⟨K, hK⟩ := h
  obtain ⟨v, e, rfl⟩ := hK K (Nat.le_refl _)
  exact ⟨K, e⟩
end Go.Proofs.Ytncnnbabokkafaa.ChangesLaw
