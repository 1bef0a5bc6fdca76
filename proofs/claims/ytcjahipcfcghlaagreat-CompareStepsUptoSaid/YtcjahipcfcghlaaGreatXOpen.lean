/- Words of our own: what an argument's reading says in the print's kinds, with how much it weighs ('bulk'). -/
import Derived.Test.YtcjahipcfcghlaaGreatWWords
import Derived.Test.YtcjahipcfcghlaaGreatRows
import Derived.ChangeArms
import Derived.ChangeSame
import Derived.OpenShut
namespace Go.Proofs.YtcjahipcfcghlaaGreatX
open Go.RowKit Go.Proofs.YtcjahipcfcghlaaGreatW.PrintWords Go.Proofs.YtcjahipcfcghlaaGreat
set_option linter.unusedVariables false
structure Opens (P : Program) (T : TypeId) {α : Type} (d : Kd α) (good : α → Prop) (wt : α → Nat) : Prop where
  cells : P.cellsOf T = d.sz
  opens : ∀ {H : Type} {enc : TypeId × Value → H} {W : World} {fuel : Nat} {cs : List Value} {x : DataW H × List MemPlace}, DataW.trod enc P W 0 (fun _ => true) true fuel T cs = some x →
    ∃ y, d.K W y cs ∧ good y ∧ wt y ≤ Rows.uptoBulk x.1
section
variable {P : Program} {T : TypeId}
theorem Opens.int {k : IntKind} (ht : P.underlying T = some (.int k)) (hc : P.cellsOf T = 1) : Opens P T (Kd.int k) (fun n => (Lit.int k n).wf = true) (fun _ => 1) :=
  ⟨hc, fun {H enc W fuel cs x} h => by
    cases fuel with
    | zero => simp [DataW.trod] at h
    | succ n =>
      unfold DataW.trod at h
      rw [ht] at h
      split at h <;> simp_all
      obtain ⟨⟨rfl, hw⟩, rfl⟩ := h
      exact ⟨_, rfl, hw, by simp [Rows.uptoBulk]⟩⟩
theorem Opens.bool (ht : P.underlying T = some .bool) (hc : P.cellsOf T = 1) : Opens P T Kd.bool (fun _ => True) (fun _ => 1) :=
  ⟨hc, fun {H enc W fuel cs x} h => by
    obtain ⟨b, rfl, rfl⟩ := DataW.trod_bool ht h
    exact ⟨b, rfl, trivial, by simp [Rows.uptoBulk]⟩⟩
theorem Opens.string (ht : P.underlying T = some .string) (hc : P.cellsOf T = 1) : Opens P T Kd.string (fun s => s.size ≤ maxLen) (fun s => s.size + 1) :=
  ⟨hc, fun {H enc W fuel cs x} h => by
    cases fuel with
    | zero => simp [DataW.trod] at h
    | succ n =>
      unfold DataW.trod at h
      rw [ht] at h
      split at h <;> simp_all
      obtain ⟨hw, rfl⟩ := h
      refine ⟨_, rfl, hw, ?_⟩
      simp only [Rows.uptoBulk, Array.length_toList]
      exact Nat.le_refl _⟩
theorem lift_list {α β : Type} : ∀ (l : List β) (Q : Nat → β → α → Prop), (∀ i e, l[i]? = some e → ∃ y, Q i e y) → ∃ ys : List α, ys.length = l.length ∧ ∀ i e y, l[i]? = some e → ys[i]? = some y → Q i e y
  | [], Q, h => ⟨[], rfl, fun i e y h => by simp at h⟩
  | b :: l, Q, h => by
    obtain ⟨y0, h0⟩ := h 0 b rfl
    obtain ⟨ys, hl, hq⟩ := lift_list l (fun i => Q (i + 1)) (fun i e hi => h (i + 1) e (by simpa using hi))
    refine ⟨y0 :: ys, by simp [hl], fun i e y he hy => ?_⟩
    cases i with
    | zero =>
      simp at he hy
      subst he; subst hy
      exact h0
    | succ i => exact hq i e y (by simpa using he) (by simpa using hy)
def wtAll {α : Type} (wt : α → Nat) : List α → Nat
  | [] => 0
  | x :: l => wt x + wtAll wt l
theorem wt_one {α : Type} : ∀ l : List α, wtAll (fun _ => 1) l = l.length
  | [] => rfl
  | x :: l => by rw [wtAll, wt_one l, List.length_cons]; omega
theorem wtAll_len {α : Type} {wt : α → Nat} (h : ∀ x, 1 ≤ wt x) : ∀ l : List α, l.length ≤ wtAll wt l
  | [] => Nat.le_refl _
  | x :: l => by
    have h1 := wtAll_len h l
    have h2 := h x
    rw [wtAll, List.length_cons]
    omega
theorem wtAll_le {α H : Type} (wt : α → Nat) : ∀ (ys : List α) (l : List (DataW H × List MemPlace)), ys.length = l.length → (∀ (i : Nat) (e : DataW H × List MemPlace) (y : α), l[i]? = some e → ys[i]? = some y → wt y ≤ Rows.uptoBulk e.1) →
    wtAll wt ys ≤ Rows.uptoBulkAll (l.map (·.1))
  | [], [], _, _ => by simp [wtAll]
  | [], _ :: _, h, _ => by simp at h
  | _ :: _, [], h, _ => by simp at h
  | y :: ys, e :: l, hl, h => by
    have h0 := h 0 e y rfl rfl
    have h1 := wtAll_le wt ys l (by simpa using hl) (fun i e' y' he hy => h (i + 1) e' y' (by simpa using he) (by simpa using hy))
    simp only [wtAll, List.map_cons, Rows.uptoBulkAll]
    omega
theorem mapM_some {α β : Type} (f : α → Option β) : ∀ (l : List α) (r : List β), l.mapM f = some r → r.length = l.length ∧ ∀ (i : Nat) (x : α), l[i]? = some x → ∃ y : β, f x = some y ∧ r[i]? = some y
  | [], r, h => by
    simp at h
    subst h
    exact ⟨rfl, fun i x hx => by simp at hx⟩
  | a :: l, r, h => by
    simp only [List.mapM_cons, Option.bind_eq_bind, Option.bind_eq_some_iff, Option.pure_def, Option.some.injEq] at h
    obtain ⟨y, hy, ys, hys, rfl⟩ := h
    obtain ⟨h1, h2⟩ := mapM_some f l ys hys
    refine ⟨by simp [h1], fun i x hx => ?_⟩
    cases i with
    | zero =>
      simp at hx
      subst hx
      exact ⟨y, hy, rfl⟩
    | succ i =>
      obtain ⟨z, hz, hi⟩ := h2 i x (by simpa using hx)
      exact ⟨z, hz, by simpa using hi⟩
theorem addr_add_add (a : Addr) (m n : Nat) : (a.add m).add n = a.add (m + n) := by
  unfold Addr.add
  by_cases hm : m = 0
  · subst hm; simp
  · by_cases hn : n = 0
    · subst hn; simp
    · rw [if_neg hn, if_neg hm, if_neg (by omega)]
      simp only [Addr.mk.injEq, and_true, true_and]
      omega
theorem cells_some {w : World} {base : Nat} {a : Addr} {n : Nat} {c : List Value} (h : w.cells? base a n = some c) : c.length = n ∧ ∀ i u, c[i]? = some u → w.cell? (a.add i) = some u := by
  unfold World.cells? at h
  split at h
  · obtain ⟨h1, h2⟩ := mapM_some _ _ _ h
    rw [List.length_range] at h1
    refine ⟨h1, fun i u hu => ?_⟩
    have hi : i < n := by rw [← h1]; exact (List.getElem?_eq_some_iff.1 hu).1
    obtain ⟨y, hy, hr⟩ := h2 i i (by rw [List.getElem?_range hi])
    rw [hu] at hr
    cases hr
    exact hy
  · cases h
theorem Opens.slice {e : TypeId} {α : Type} {d : Kd α} {good : α → Prop} {wt : α → Nat} (ht : P.underlying T = some (.slice e)) (hc : P.cellsOf T = 1) (E : Opens P e d good wt) :
    Opens P T (Kd.slice e d) (fun xs => ∀ x ∈ xs, good x) (fun xs => wtAll wt xs + 1) :=
  ⟨hc, fun {H enc W fuel cs x} h => by
    rcases DataW.trod_slice ht h with ⟨rfl, rfl⟩ | ⟨a, len, cap, elems, rest, n, rfl, rfl, rfl, hb, hl, hm, hlen, hel, hsp, hns⟩
    · refine ⟨[], ⟨none, 0, rfl, Nat.le_refl _, rfl, by simp, fun h => by simp at h⟩, ?_, by simp [wtAll, Rows.uptoBulk]⟩
      intro x hx
      cases hx
    · have hQ : ∀ (i : Nat) (e' : DataW H × List MemPlace), elems[i]? = some e' → ∃ y, good y ∧ wt y ≤ Rows.uptoBulk e'.1 ∧ ∃ c : List Value, c.length = d.sz ∧ d.K W y c ∧ ∀ j u, c[j]? = some u → W.cell? (a.add (i * d.sz + j)) = some u := by
        intro i e' he
        have hi : i < len := by rw [← hlen]; exact (List.getElem?_eq_some_iff.1 he).1
        have h1 := hel i hi
        rw [he, E.cells, Option.bind_eq_some_iff] at h1
        obtain ⟨c, hc1, hc2⟩ := h1
        obtain ⟨y, hy, hg, hw⟩ := E.opens hc2
        obtain ⟨k1, k2⟩ := cells_some hc1
        refine ⟨y, hg, hw, c, k1, hy, fun j u hu => ?_⟩
        have := k2 j u hu
        rwa [addr_add_add] at this
      obtain ⟨ys, hys, hq⟩ := lift_list elems _ hQ
      have hlen' : ys.length = len := by omega
      refine ⟨ys, ⟨some a, cap, by rw [hlen'], by omega, rfl, ?_, fun _ => ⟨a, rfl, fun j p hj => ?_⟩⟩, ?_, ?_⟩
      · have : maxLen = 9223372036854775807 := rfl
        omega
      · have hj' : j < elems.length := by rw [← hys]; exact (List.getElem?_eq_some_iff.1 hj).1
        exact (hq j _ p (List.getElem?_eq_getElem hj') hj).2.2 |>.elim fun c hc => ⟨c, hc.1, hc.2.1, hc.2.2⟩
      · intro x hx
        obtain ⟨i, hi, rfl⟩ := List.mem_iff_getElem.1 hx
        exact (hq i _ _ (List.getElem?_eq_getElem (by omega)) (List.getElem?_eq_getElem hi)).1
      · have := wtAll_le wt ys elems hys (fun i e' y he hy => (hq i e' y he hy).2.1)
        simp only [Rows.uptoBulk]
        omega⟩
structure OpensF (P : Program) (fs : List Field) (off : Nat) {α : Type} (d : Kd α) (good : α → Prop) (wt : α → Nat) : Prop where
  opens : ∀ {H : Type} {enc : TypeId × Value → H} {W : World} {fuel : Nat} {cs : List Value} {xs : List (DataW H × List MemPlace)},
    (fs.mapM fun f => DataW.trod enc P W 0 (fun _ => true) true fuel f.type ((cs.drop f.offset).take (P.cellsOf f.type))) = some xs →
    ∃ y, d.K W y ((cs.drop off).take d.sz) ∧ good y ∧ wt y ≤ Rows.uptoBulkAll (xs.map (·.1))
theorem OpensF.one {f : Field} {off : Nat} {α : Type} {d : Kd α} {good : α → Prop} {wt : α → Nat} (h : Opens P f.type d good wt) (ho : f.offset = off) : OpensF P [f] off d good wt :=
  ⟨fun {H enc W fuel cs xs} hx => by
    subst ho
    obtain ⟨h1, h2⟩ := mapM_some _ _ _ hx
    obtain ⟨x, hx1, hx2⟩ := h2 0 f rfl
    rw [h.cells] at hx1
    obtain ⟨y, hy, hg, hw⟩ := h.opens hx1
    refine ⟨y, hy, hg, ?_⟩
    cases xs with
    | nil => simp at h1
    | cons z xs =>
      cases hx2
      simp only [List.map_cons, Rows.uptoBulkAll]
      omega⟩
theorem OpensF.cons {f : Field} {fs : List Field} {off : Nat} {α β : Type} {d : Kd α} {d' : Kd β} {good : α → Prop} {wt : α → Nat} {good' : β → Prop} {wt' : β → Nat} (h : Opens P f.type d good wt) (ho : f.offset = off) (hs : OpensF P fs (off + d.sz) d' good' wt') :
    OpensF P (f :: fs) off (Kd.pair d d') (fun x => good x.1 ∧ good' x.2) (fun x => wt x.1 + wt' x.2) :=
  ⟨fun {H enc W fuel cs xs} hx => by
    subst ho
    simp only [List.mapM_cons, Option.bind_eq_bind, Option.bind_eq_some_iff, Option.pure_def, Option.some.injEq] at hx
    obtain ⟨x, hx1, ys, hys, rfl⟩ := hx
    rw [h.cells] at hx1
    obtain ⟨y, hy, hg, hw⟩ := h.opens hx1
    obtain ⟨y', hy', hg', hw'⟩ := hs.opens hys
    refine ⟨(y, y'), ⟨_, _, ?_, hy, hy'⟩, ⟨hg, hg'⟩, ?_⟩
    · show (cs.drop f.offset).take (d.sz + d'.sz) = _
      rw [List.take_add, List.drop_drop]
    · simp only [List.map_cons, Rows.uptoBulkAll]
      omega⟩
theorem Opens.struct {fs : Array Field} {α β : Type} {d : Kd α} {good : α → Prop} {wt : α → Nat} (ht : P.underlying T = some (.struct fs)) (hc : P.cellsOf T = d.sz) (h : OpensF P fs.toList 0 d good wt) (f : β → α) (g : α → β) (hfg : ∀ x, f (g x) = x) :
    Opens P T (Kd.iso d f) (fun x => good (f x)) (fun x => wt (f x) + 1) :=
  ⟨hc, fun {H enc W fuel cs x} hx => by
    cases fuel with
    | zero => simp [DataW.trod] at hx
    | succ n =>
      unfold DataW.trod at hx
      rw [ht] at hx
      simp only at hx
      split at hx
      · rename_i hl
        rw [Option.map_eq_some_iff] at hx
        obtain ⟨xs, hxs, rfl⟩ := hx
        obtain ⟨y, hy, hg, hw⟩ := h.opens hxs
        have e : (cs.drop 0).take d.sz = cs := by rw [List.drop_zero, ← hc, ← hl, List.take_length]
        rw [e] at hy
        refine ⟨g y, ?_, ?_, ?_⟩
        · show d.K W (f (g y)) cs
          rw [hfg]; exact hy
        · rw [hfg]; exact hg
        · rw [hfg]
          simp only [Rows.uptoBulk]
          omega
      · cases hx⟩
/-- An argument that is a slice. -/
theorem Opens.arg_slice {H : Type} {enc : TypeId × Value → H} {W : World} {e : TypeId} {α : Type} {d : Kd α} {good : List α → Prop} {wt : List α → Nat} (O : Opens P T (Kd.slice e d) good wt) {v : Value} {x : DataW H} {p : List MemPlace}
    (hv : v.cells.toList = [v]) (h : DataW.Trod enc P W 0 (fun _ => true) true T v x p) : ∃ (A : Option Addr) (c : Nat) (l : List α), v = .slice A l.length c ∧ l.length ≤ c ∧ Kd.C d W A l.length l ∧ good l ∧ wt l ≤ Rows.uptoBulk x := by
  obtain ⟨fuel, hf⟩ := h
  obtain ⟨y, ⟨A, c, hcs, hl, hr⟩, hg, hw⟩ := O.opens hf
  rw [hv] at hcs
  exact ⟨A, c, y, by simpa using hcs, hl, hr, hg, hw⟩
end
end Go.Proofs.YtcjahipcfcghlaaGreatX
