-- WRITTEN BY wip/xprint.py, a program of the proving session round the kit's print.py; Lean checks it.
import Derived.Test.YtpaghdfnhlpngaaDoorPPaxPairsx0
namespace Go.Proofs.YtpaghdfnhlpngaaDoor.PPaxPairs
open Go.Proofs.YtpaghdfnhlpngaaDoorX
open Go.RowKit Go.Proofs.YtpaghdfnhlpngaaDoorW.PrintWords Go.Proofs.YtpaghdfnhlpngaaDoorW.PrintLast Go.Proofs.YtpaghdfnhlpngaaDoorW.PrintMore
attribute [local go_sem] str_leq str_gtr max2_int min2_int max_two min_two max_three min_three max_four min_four   -- for this text's walks alone
set_option linter.unusedVariables false
set_option linter.unusedSimpArgs false

/-! ### pax_Merge: function 10 -/
section
open Go.Proofs.YtpaghdfnhlpngaaDoorV
theorem mg.info : (Tryd.prog.info? 36).map (fun i => (i.zero, i.size, i.bytes)) = some (some (.agg #[(.string ⟨#[]⟩), (.string ⟨#[]⟩)]), 2, 32) := by kernel_rfl
theorem mg.growC (n : Nat) (hn : n ≤ 1099511627776) (w : World) :
    Calls Tryd.prog 44 #[.slice none 0 0, .int .i64 (n : Int)] w fun e w' => ∃ v : Value, e = .returned v ∧ Kd.R k36 36 w' w.heap.size (fun k => w.heap.size ≤ k) v ([] : List S36) ∧ Below w.heap.size w w' := by
  obtain ⟨i0, hi, hzz⟩ := Option.map_eq_some_iff.1 mg.info
  simp only [Prod.mk.injEq] at hzz
  obtain ⟨hz0, hz1, hz2⟩ := hzz
  by_cases h0 : n = 0
  · subst h0
    refine (Any8.slices_Grow_room Tryd.laysGrow none 0 0 0 w (by omega) (by omega) (by omega) (by omega)).mono ?_
    rintro e w' ⟨rfl, rfl⟩
    exact ⟨_, rfl, Kd.R_nil _ _ _ _ _, Below.refl _ _⟩
  · refine (Any8.slices_Grow_grow Tryd.laysGrow i0 _ hi hz0 (by omega) none 0 0 n [] w (by omega) (by omega) (by rw [hz2]; omega) (by omega) (by simp) (fun _ => rfl) (fun a h => by cases h)).mono ?_
    rintro e w' ⟨rfl, hw⟩
    have hg := grownCap_ge w (0 + n) 0 36
    have hmx := grownCap_le_maxLen w (0 + n) 0 36 (by unfold maxLen; omega)
    obtain ⟨cs, hcs, hsz⟩ : ∃ cs : Array Value, w' = w.drew.alloc (.cells cs 36) ∧ cs.size = grownCap w (0 + n) 0 36 * 2 := ⟨_, hw, by
      rw [Array.size_append, Array.size_append, size_zeroCells, size_zeroCells]
      show 0 + (0 + n - 0) * 2 + (grownCap w (0 + n) 0 36 - (0 + n)) * 2 = grownCap w (0 + n) 0 36 * 2
      omega⟩
    subst hcs
    refine ⟨_, rfl, ⟨fun k hk => ?_, [], ⟨by simp, .inr ⟨w.heap.size, grownCap w (0 + n) 0 36, cs, rfl, Nat.le_refl _, (MapKept.heap_alloc w.drew (.cells cs 36)).1, Nat.zero_le _, hmx, hsz, by simp⟩⟩, ⟨by simp, fun j p hj => by simp at hj⟩⟩, (below_alloc (Below.refl _ _).drew _)⟩
    have : w.heap.size = k := by simpa [Value.ownBlock] using hk
    omega
set_option maxHeartbeats 4000000 in
set_option maxRecDepth 100000 in
theorem mg.concat (b : Nat) (A0 A1 : Option Addr) (c0 c1 : Nat) (l0 l1 : List S36) (w : World) (hb : b < w.heap.size) (h0 : w.cell? ⟨b, 0, none⟩ = some (.slice A0 l0.length c0)) (h1 : w.cell? ⟨b, 1, none⟩ = some (.slice A1 l1.length c1))
    (hr0 : Kd.C k36 w A0 l0.length l0) (hr1 : Kd.C k36 w A1 l1.length l1) (hl : l0.length + l1.length ≤ 1099511627776) :
    Calls Tryd.prog 27 #[.slice (some ⟨b, 0, none⟩) 2 2] w fun e w' => ∃ v : Value, e = .returned v ∧ Kd.R k36 36 w' w.heap.size (fun k => w.heap.size ≤ k) v (l0 ++ l1) ∧ Below w.heap.size w w' := by
  have HR0 := Aside0.mk hr0
  have HR1 := Aside0.mk hr1
  have HL := Aside0.mk hl
  have HG := Aside0.mk (mg.growC (l0.length + l1.length) hl w)
  have hw1 : IntKind.i64.wrap (l0.length : Int) = l0.length := IntWalk.i64_in _ (by omega)
  have hw2 : IntKind.i64.wrap ((l0.length : Int) + (l1.length : Int)) = (l0.length : Int) + l1.length := IntWalk.i64_in _ (by omega)
  have hn1 : decide ((l0.length : Int) < 0) = false := decide_eq_false (by omega)
  have hn2 : decide ((l0.length : Int) + (l1.length : Int) < 0) = false := decide_eq_false (by omega)
  clear hr0 hr1 hl
  go_enter Tryd.func27, Tryd.ntmps27
  go_wp2_with fail
  go_loopw [3, 11] (fun v3 v11 wr => ((v3 = .int .i64 0 ∧ v11 = .int .i64 0) ∨ (v3 = .int .i64 (l0.length : Int) ∧ v11 = .int .i64 1) ∨ (v3 = .int .i64 ((l0.length : Int) + (l1.length : Int)) ∧ v11 = .int .i64 2)) ∧ w = wr) (fun v3 v11 wr => 2 - (intOf v11).toNat)
  case atStart => exact ⟨.inl ⟨rfl, rfl⟩, rfl⟩
  case round =>
    obtain ⟨⟨rfl, rfl⟩ | ⟨rfl, rfl⟩ | ⟨rfl, rfl⟩, hww⟩ := hrel
    all_goals subst hww
    · go_wp2_with fail
      exact ⟨⟨.inr (.inl ⟨rfl, rfl⟩), trivial⟩, by decide⟩
    · go_wp2_with fail
      exact ⟨⟨.inr (.inr ⟨rfl, rfl⟩), trivial⟩, by decide⟩
    · go_wp2_with fail
      rw [show (l0.length : Int) + (l1.length : Int) = ((l0.length + l1.length : Nat) : Int) by omega]
      refine HG.out.mono ?_
      rintro e w1 ⟨v, rfl, ho, hB⟩
      have HO := Aside0.mk ho
      have HB := Aside0.mk hB
      clear ho hB HG
      go_wp2_with fail
      go_loopw [6, 27] (fun v6 v27 w2 => ((v27 = .int .i64 0 ∧ Aside0 (Kd.R k36 36 w2 w.heap.size (fun k => w.heap.size ≤ k) v6 ([] : List S36))) ∨ (v27 = .int .i64 1 ∧ Aside0 (Kd.R k36 36 w2 w.heap.size (fun k => w.heap.size ≤ k) v6 l0)) ∨ (v27 = .int .i64 2 ∧ Aside0 (Kd.R k36 36 w2 w.heap.size (fun k => w.heap.size ≤ k) v6 (l0 ++ l1)))) ∧ Aside0 (Below w.heap.size w w2)) (fun v6 v27 w2 => 2 - (intOf v27).toNat)
      case atStart => exact ⟨.inl ⟨rfl, HO⟩, HB⟩
      case round =>
        obtain ⟨⟨rfl, HO2⟩ | ⟨rfl, HO2⟩ | ⟨rfl, HO2⟩, HB2⟩ := hrel
        · have k0 := (HB2.out.cell (p := ⟨b, 0, none⟩) hb).trans h0
          go_wp2_with ((with_reducible refine gate_dst (N := 33) rfl ?_); at_builtin; refine Kd.R_append_rows k36 (w0 := w) w.heap.size rfl (.tmp 31) (.tmp 32) 22 36 (.agg #[(.string ⟨#[]⟩), (.string ⟨#[]⟩)]) 32 rfl Tryd.underlying22 mg.info rfl (by decide) (by omega) _ ([] : List S36) l0 A0 l0.length c0 (fun k => w.heap.size ≤ k) (fun _ => False) rfl rfl HO2.out (Kd.C_below HR0.out HB2.out) (fun _ _ h => h) (fun _ h => h.elim) (fun k hk => Nat.le_trans (below_size HB2.out) hk) HB2.out (below_size HB2.out) (by have := HL.out; simp; omega) ?_; intro v9 w9 ho hb9 hg hat; have HO3 := Aside0.mk ho; have HB3 := Aside0.mk hb9; clear HO2 HB2 ho hb9 hg hat)
          exact ⟨⟨.inr (.inl ⟨rfl, HO3⟩), HB3⟩, by decide⟩
        · have k1 := (HB2.out.cell (p := ⟨b, 1, none⟩) hb).trans h1
          go_wp2_with ((with_reducible refine gate_dst (N := 33) rfl ?_); at_builtin; refine Kd.R_append_rows k36 (w0 := w) w.heap.size rfl (.tmp 31) (.tmp 32) 22 36 (.agg #[(.string ⟨#[]⟩), (.string ⟨#[]⟩)]) 32 rfl Tryd.underlying22 mg.info rfl (by decide) (by omega) _ l0 l1 A1 l1.length c1 (fun k => w.heap.size ≤ k) (fun _ => False) rfl rfl HO2.out (Kd.C_below HR1.out HB2.out) (fun _ _ h => h) (fun _ h => h.elim) (fun k hk => Nat.le_trans (below_size HB2.out) hk) HB2.out (below_size HB2.out) (by have := HL.out; simp; omega) ?_; intro v9 w9 ho hb9 hg hat; have HO3 := Aside0.mk ho; have HB3 := Aside0.mk hb9; clear HO2 HB2 ho hb9 hg hat)
          exact ⟨⟨.inr (.inr ⟨rfl, HO3⟩), HB3⟩, by decide⟩
        · go_wp2_with fail
          go_ret
          exact ⟨_, rfl, HO2.out, HB2.out⟩
section
open Go.Sort Go.Lib
set_option maxRecDepth 100000 in
theorem mg.nan (s : ByteArray) (w : World) : Calls Tryd.prog 47 #[.string s] w fun e w' => e = .returned (.bool false) ∧ w' = w := by
  go_enter Tryd.func47, Tryd.ntmps47
  go_wp2
  go_ret
  exact ⟨by simp, rfl⟩
def cmpS (a b : ByteArray) : Int := if Op.bytesLess a.toList b.toList = true then -1 else if a.toList = b.toList then 0 else 1
set_option maxRecDepth 100000 in
theorem mg.cmp (a b : ByteArray) (w : World) : Calls Tryd.prog 30 #[.string a, .string b] w fun e w' => e = .returned (.int .i64 (cmpS a b)) ∧ w' = w := by
  unfold cmpS
  have hn := fun s W => mg.nan s W
  by_cases h1 : Op.bytesLess a.toList b.toList = true
  · rw [if_pos h1]
    go_enter Tryd.func30, Tryd.ntmps30
    go_wp2_with (go_at_call 47; refine (hn _ _).mono ?_; rintro e w1 ⟨rfl, rfl⟩)
    go_ret
    exact ⟨rfl, rfl⟩
  · rw [if_neg h1]
    rw [Bool.not_eq_true] at h1
    by_cases h2 : a.toList = b.toList
    · rw [if_pos h2]
      have h3 : Op.bytesLess b.toList a.toList = false := by have := h1; rw [h2] at this ⊢; exact this
      clear h2
      go_enter Tryd.func30, Tryd.ntmps30
      go_wp2_with (go_at_call 47; refine (hn _ _).mono ?_; rintro e w1 ⟨rfl, rfl⟩)
      go_ret
      exact ⟨rfl, rfl⟩
    · rw [if_neg h2]
      have h3 : Op.bytesLess b.toList a.toList = true := by
        rw [bytesLess_eq] at h1 ⊢
        rcases Decidable.em (b.toList < a.toList) with h | h
        · exact decide_eq_true h
        · exact absurd (List.le_antisymm (List.not_lt.1 h) (List.not_lt.1 (of_decide_eq_false h1))) h2
      clear h2
      go_enter Tryd.func30, Tryd.ntmps30
      go_wp2_with (go_at_call 47; refine (hn _ _).mono ?_; rintro e w1 ⟨rfl, rfl⟩)
      go_ret
      exact ⟨rfl, rfl⟩
instance : Inhabited S36 := ⟨z36⟩
def encP (x : S36) : List Value := [.string x.f0, .string x.f1]
set_option maxRecDepth 100000 in
theorem mg.closure (x y : S36) (W : World) : Calls Tryd.prog 29 #[.agg #[.string x.f0, .string x.f1], .agg #[.string y.f0, .string y.f1]] W fun e w' => e = .returned (.int .i64 (cmpS x.f0 y.f0)) ∧ ∃ q os', w' = grow (W.drewN q) os' := by
  have hcon := fun W' => mg.cmp x.f0 y.f0 W'
  generalize cmpS x.f0 y.f0 = r at hcon ⊢
  go_enter Tryd.func29, Tryd.ntmps29
  go_wp2_with (go_at_call 30; refine (hcon _).mono ?_; rintro e w' ⟨rfl, rfl⟩)
  go_ret
  exact ⟨rfl, 0, _, by rw [alloc_eq_grow, alloc_eq_grow, grow_grow]; rfl⟩
theorem mg.cmpLays (blk off size : Nat) (w : World) : CmpLays Tryd.prog 29 #[] encP 2 (fun x y => cmpS x.f0 y.f0) blk off size w :=
  fun _ _ _ _ x y => mg.closure x y _
end
section
open Go.Sort
theorem mg.inner {M : S36 → List Value → Prop} (hM : ∀ x cs, M x cs → cs = [.string x.f0, .string x.f1]) : ∀ (xs : List S36) (inner : List Value), Reps M 2 xs inner → inner = xs.flatMap encP
  | [], inner, h => by
    have := h.1
    simp at this
    simp [this]
  | x :: xs, inner, h => by
    have h0 := hM x _ (h.2 0 x rfl)
    simp only [Nat.zero_mul, List.drop_zero] at h0
    have hl : inner.length = (xs.length + 1) * 2 := by simpa using h.1
    have ih := mg.inner hM xs (inner.drop 2) ⟨by rw [List.length_drop, hl]; omega, fun j p hj => by
      have := h.2 (j + 1) p (by simpa using hj)
      rw [List.drop_drop, show 2 + j * 2 = (j + 1) * 2 by omega]
      exact this⟩
    rw [List.flatMap_cons, ← ih, ← List.take_append_drop 2 inner, h0]
    simp [encP]
theorem mg.flat_len (l : List S36) : (l.flatMap encP).length = l.length * 2 := by
  induction l with
  | nil => rfl
  | cons x l ih => rw [List.flatMap_cons, List.length_append, ih]; simp [encP]; omega
theorem mg.flat_get : ∀ (l : List S36) (t : Nat), t < l.length * 2 → (l.flatMap encP)[t]? = some ((encP l[t / 2]!)[t % 2]!)
  | [], t, h => by simp at h
  | x :: l, 0, h => by simp [encP]
  | x :: l, 1, h => by simp [encP]
  | x :: l, t + 2, h => by
    have ih := mg.flat_get l t (by simp at h; omega)
    rw [List.flatMap_cons, List.getElem?_append_right (by simp [encP])]
    rw [show t + 2 - (encP x).length = t by simp [encP], ih, show (t + 2) / 2 = t / 2 + 1 by omega, show (t + 2) % 2 = t % 2 by omega]
    simp
theorem mg.flatKL (d : List S36) : (flatK encP 2 d.toArray).toList = d.flatMap encP := by
  apply List.ext_getElem?
  intro t
  by_cases h : t < d.length * 2
  · rw [mg.flat_get d t h, Array.getElem?_toList]
    have h1 := get_flatK encP 2 d.toArray t (by simpa using h)
    have h2 : t < (flatK encP 2 d.toArray).size := by simpa using h
    rw [Array.getElem?_eq_getElem h2, ← getElem!_pos (flatK encP 2 d.toArray) t h2, h1]
    simp
  · rw [List.getElem?_eq_none (by simp; omega), List.getElem?_eq_none (by rw [mg.flat_len]; omega)]
theorem mg.reps {W : World} {base : Nat} {ok : Nat → Prop} (d : List S36) : Reps (k36.M W base ok) 2 d (d.flatMap encP) := by
  refine ⟨mg.flat_len d, fun j p hj => ?_⟩
  have hjl : j < d.length := (List.getElem?_eq_some_iff.1 hj).1
  have e : ((d.flatMap encP).drop (j * 2)).take 2 = [.string p.f0, .string p.f1] := by
    have hp : d[j]! = p := by
      rw [List.getElem?_eq_getElem hjl] at hj
      rw [getElem!_pos d j hjl]
      exact Option.some.inj hj
    apply List.ext_getElem?
    intro i
    match i with
    | 0 => rw [List.getElem?_take_of_lt (by omega), List.getElem?_drop, mg.flat_get d _ (by omega), show (j * 2 + 0) / 2 = j by omega, show (j * 2 + 0) % 2 = 0 by omega, hp]; rfl
    | 1 => rw [List.getElem?_take_of_lt (by omega), List.getElem?_drop, mg.flat_get d _ (by omega), show (j * 2 + 1) / 2 = j by omega, show (j * 2 + 1) % 2 = 1 by omega, hp]; rfl
    | i + 2 => rw [List.getElem?_take_eq_none (by omega)]; rfl
  rw [e]
  exact k36_mkM _ _ _ _
theorem mg.sorted {w : World} {base g cap n : Nat} {ok : Nat → Prop} {os : Array Obj} {d d' : List S36} (ho : Kd.R k36 36 w base ok (.slice (some ⟨g, 0, none⟩) d.length cap) d) (hl : d'.length = d.length) :
    HoldsK encP 2 w g 0 d.toArray ∧ Kd.R k36 36 (sortWorldK encP 2 w g 0 n d'.toArray os) base ok (.slice (some ⟨g, 0, none⟩) d.length cap) d' ∧ w.grownBy (sortWorldK encP 2 w g 0 n d'.toArray os) (some g) ∧ g < w.heap.size ∧ base ≤ g := by
  obtain ⟨hok, inner, ⟨hlen, hrow⟩, hrep⟩ := ho
  have hin := mg.inner (fun x cs h => k36_openM h) d inner hrep
  subst hin
  rcases hrow with ⟨he, _⟩ | ⟨g', cap', cur, hv, hb, hh, hnc, hcm, hcs, ht⟩
  · cases he
  · cases hv
    have hcs' : cur.size = cap * 2 := hcs
    have ht' : cur.toList.take (d.length * 2) = d.flatMap encP := ht
    have hglt : g < w.heap.size := (Array.getElem?_eq_some_iff.1 hh).1
    have hheap : (sortWorldK encP 2 w g 0 n d'.toArray os).heap[g]? = some (.cells (putCells id 0 (flatK encP 2 d'.toArray) cur) 36 (0, 0)) := by
      unfold sortWorldK putRowK
      rw [heap_grow_old _ _ (by simpa [putRow, mapBlock, Sort.ahead] using hglt)]
      simp [putRow, mapBlock, Sort.ahead, Array.getElem?_modify, hh, onCells]
    refine ⟨?_, ⟨hok, d'.flatMap encP, ⟨by rw [mg.flat_len]; show d'.length * 2 = d'.length * 2; rfl, .inr ⟨g, cap, _, by rw [hl], hb, hheap, by rw [hl]; exact hnc, hcm, ?_, ?_⟩⟩, mg.reps d'⟩, ?_, hglt, hb⟩
    · intro j hj
      have hj' : j < d.length * 2 := by simpa using hj
      refine ⟨?_, by simp [World.frozen?, hh]⟩
      have h1 : (cur.toList.take (d.length * 2))[j]? = (d.flatMap encP)[j]? := by rw [ht']
      rw [List.getElem?_take_of_lt hj', Array.getElem?_toList] at h1
      have h2 : (flatK encP 2 d.toArray)[j]? = (d.flatMap encP)[j]? := by rw [← mg.flatKL, Array.getElem?_toList]
      have h3 : j < (flatK encP 2 d.toArray).size := hj
      rw [Array.getElem?_eq_getElem h3] at h2
      simp only [World.cell?, hh, Nat.zero_add, Option.isSome_none, Bool.false_eq_true, if_false]
      rw [h1, ← h2, getElem!_pos _ j h3]
      rfl
    · show (putCells id 0 (flatK encP 2 d'.toArray) cur).size = cap * 2
      simp [putCells, hcs']
    · show (putCells id 0 (flatK encP 2 d'.toArray) cur).toList.take (d'.length * 2) = d'.flatMap encP
      apply List.ext_getElem?
      intro j
      by_cases hj : j < d'.length * 2
      · rw [List.getElem?_take_of_lt hj, Array.getElem?_toList, ← mg.flatKL, Array.getElem?_toList]
        have : j < cur.size := by rw [hcs']; have : d.length * 2 ≤ cap * 2 := Nat.mul_le_mul_right _ hnc; omega
        simp [putCells, hj, this]
      · rw [List.getElem?_take_eq_none (by omega), List.getElem?_eq_none (by rw [mg.flat_len]; omega)]
    · refine ⟨rfl, rfl, rfl, by simp [sortWorldK, putRowK, putRow, mapBlock, Sort.ahead, grow], fun k hk hne => ?_⟩
      unfold sortWorldK putRowK
      rw [heap_grow_old _ _ (by simpa [putRow, mapBlock, Sort.ahead] using hk)]
      have : g ≠ k := fun e => hne (by rw [e])
      simp [putRow, mapBlock, Sort.ahead, Array.getElem?_modify, this]
end
def mapOf (l : List S36) : List (ByteArray × ByteArray) := l.foldl (fun m x => aset x.f0 x.f1 m) []
theorem mapOf_snoc (l : List S36) (x : S36) : mapOf (l ++ [x]) = aset x.f0 x.f1 (mapOf l) := by simp [mapOf]
theorem turned_grown {w w' : World} {b : Nat} (h : Turned w w' b) : w.grownBy w' (some b) := ⟨h.os, h.tape, h.output, Nat.le_of_eq h.size.symm, fun k _ hk => h.block k (fun e => hk (by rw [e]))⟩
theorem nodup_inj {α β : Type} (f : α → β) : ∀ {l : List α}, (l.map f).Nodup → ∀ {a b : α}, a ∈ l → b ∈ l → f a = f b → a = b
  | x :: l, h, a, b, ha, hb, e => by
    rw [List.map_cons, List.nodup_cons] at h
    rcases List.mem_cons.1 ha with ea | ha <;> rcases List.mem_cons.1 hb with eb | hb
    · rw [ea, eb]
    · exact absurd (List.mem_map.2 ⟨b, hb, by rw [← e, ea]⟩) h.1
    · exact absurd (List.mem_map.2 ⟨a, ha, by rw [e, eb]⟩) h.1
    · exact nodup_inj f h.2 ha hb e
def neS (x : S36) : Bool := x.f1.toList != ([] : List UInt8)
structure PSr (m : List (ByteArray × ByteArray)) (es : List MapEntry) (ps : List S36) (seen : Array Nat) : Prop where
  nodup : (ps.map (·.f0)).Nodup
  mem : ∀ p ∈ ps, (p.f0, p.f1) ∈ m
  seen : ∀ e ∈ es, seen.contains e.born = true ↔ ∃ p ∈ ps, e.key = .string p.f0
theorem es_mem {es : List MapEntry} {m : List (ByteArray × ByteArray)} (h : EsIs keyStr Value.string es m) : ∀ e ∈ es, ∃ p ∈ m, e.key = .string p.1 ∧ e.val = .string p.2 := by
  intro e he
  have : (e.key, e.val) ∈ m.map (fun p => (keyStr.enc p.1, Value.string p.2)) := by
    rw [← h]
    exact List.mem_map.2 ⟨e, he, rfl⟩
  obtain ⟨p, hp, e2⟩ := List.mem_map.1 this
  exact ⟨p, hp, (congrArg Prod.fst e2).symm, (congrArg Prod.snd e2).symm⟩
theorem es_keys {es : List MapEntry} {m : List (ByteArray × ByteArray)} (h : EsIs keyStr Value.string es m) (hm : (akeys m).Nodup) : (es.map (·.key)).Nodup := by
  have e1 : es.map (·.key) = m.map (fun p => Value.string p.1) := by
    have := congrArg (List.map Prod.fst) h
    simpa [EsIs, List.map_map, Function.comp_def, keyStr] using this
  rw [e1]
  unfold akeys at hm
  have : m.map (fun p => Value.string p.1) = (m.map (·.1)).map Value.string := by rw [List.map_map]; rfl
  rw [this]
  exact List.Pairwise.map _ (fun a b hab e => hab (Value.string.inj e)) hm
theorem ps_step {m : List (ByteArray × ByteArray)} {es : List MapEntry} {ps : List S36} {seen : Array Nat} (hE : EsIs keyStr Value.string es m) (hm : (akeys m).Nodup) (hnd : (es.map (·.born)).Nodup) (h : PSr m es ps seen) {e : MapEntry} (he : e ∈ es) (hs : seen.contains e.born = false) {k v : ByteArray} (hk : e.key = .string k) (hkv : (k, v) ∈ m) :
    PSr m es (ps ++ [⟨k, v⟩]) (seen.push e.born) where
  nodup := by
    rw [List.map_append, List.nodup_append]
    refine ⟨h.nodup, by simp, fun a ha b hb => ?_⟩
    obtain ⟨p, hp, rfl⟩ := List.mem_map.1 ha
    simp at hb
    subst hb
    intro e2
    have := (h.seen e he).2 ⟨p, hp, by rw [hk, e2]⟩
    rw [this] at hs
    cases hs
  mem := fun p hp => by
    rcases List.mem_append.1 hp with hp | hp
    · exact h.mem p hp
    · simp at hp; subst hp; exact hkv
  seen := fun e' he' => by
    rw [Go.contains_push, Bool.or_eq_true, h.seen e' he', beq_iff_eq]
    constructor
    · rintro (⟨p, hp, e1⟩ | e1)
      · exact ⟨p, List.mem_append_left _ hp, e1⟩
      · have := nodup_inj (·.born) hnd he' he e1
        subst this
        exact ⟨⟨k, v⟩, by simp, hk⟩
    · rintro ⟨p, hp, e1⟩
      rcases List.mem_append.1 hp with hp | hp
      · exact .inl ⟨p, hp, e1⟩
      · simp at hp
        subst hp
        exact .inr (by rw [nodup_inj (·.key) (es_keys hE hm) he' he (by rw [e1, hk])])
theorem ps_end {m : List (ByteArray × ByteArray)} {es : List MapEntry} {ps : List S36} {seen : Array Nat} (hE : EsIs keyStr Value.string es m) (hm : (akeys m).Nodup) (h : PSr m es ps seen) (hall : ∀ e ∈ es, seen.contains e.born = true) : ∀ p : S36, p ∈ ps ↔ (p.f0, p.f1) ∈ m := by
  intro p
  refine ⟨h.mem p, fun hp => ?_⟩
  have : (keyStr.enc p.f0, Value.string p.f1) ∈ es.map (fun e => (e.key, e.val)) := by
    rw [show es.map (fun e => (e.key, e.val)) = _ from hE]
    exact List.mem_map.2 ⟨_, hp, rfl⟩
  obtain ⟨e, he, e2⟩ := List.mem_map.1 this
  obtain ⟨q, hq, hqe⟩ := (h.seen e he).1 (hall e he)
  have e3 : e.key = .string p.f0 := congrArg Prod.fst e2
  have e4 : q.f0 = p.f0 := Value.string.inj (hqe.symm.trans e3)
  have h1 := aget_of_mem hm hp
  have h2 := aget_of_mem hm (h.mem q hq)
  rw [e4, h1] at h2
  have e5 : p.f1 = q.f1 := Option.some.inj h2
  have : p = q := by cases p; cases q; simp_all
  rw [this]; exact hq
theorem mapOf_nodup : ∀ (l : List S36) (m : List (ByteArray × ByteArray)), (akeys m).Nodup → (akeys (l.foldl (fun m x => aset x.f0 x.f1 m) m)).Nodup
  | [], m, h => h
  | x :: l, m, h => mapOf_nodup l _ (aset_nodup h)
theorem aset_len (k v : ByteArray) (m : List (ByteArray × ByteArray)) : (aset k v m).length ≤ m.length + 1 := by
  cases h : aget k m with
  | none => exact Nat.le_of_eq (aset_length_none v h)
  | some u => rw [aset_length_some v h]; omega
theorem mapOf_len : ∀ (l : List S36) (m : List (ByteArray × ByteArray)), (l.foldl (fun m x => aset x.f0 x.f1 m) m).length ≤ m.length + l.length
  | [], m => by simp
  | x :: l, m => by
    have h1 := mapOf_len l (aset x.f0 x.f1 m)
    have h2 := aset_len x.f0 x.f1 m
    simp only [List.foldl_cons, List.length_cons]
    omega
noncomputable def leftAt (r : Nat) (es : Array MapEntry) (w : World) : Nat := match w.heap[r]? with
  | some (.mapIter _ _ seen _) => (leftOf es seen).size
  | _ => 0
/-- What pax.Merge hands back: the keys rise; just the pairs that hold last, but those without a value. -/
structure Merged (l d : List S36) : Prop where
  rise : d.Pairwise (fun x y => x.f0.toList < y.f0.toList)
  mem : ∀ p : S36, p ∈ d ↔ (p.f0, p.f1) ∈ mapOf l ∧ neS p = true
theorem cmp_lt (x y : S36) : ltOf (fun x y : S36 => cmpS x.f0 y.f0) x y = decide (x.f0.toList < y.f0.toList) := by
  unfold ltOf cmpS
  simp only [bytesLess_eq]
  by_cases h : x.f0.toList < y.f0.toList
  · simp [h]
  · by_cases h2 : x.f0.toList = y.f0.toList
    · rw [decide_eq_false h, if_neg (by simp), if_pos h2]; rfl
    · rw [decide_eq_false h, if_neg (by simp), if_neg h2]; rfl
theorem cmp_swo : Go.Sort.SWO (ltOf (fun x y : S36 => cmpS x.f0 y.f0)) where
  irrefl := fun x => by rw [cmp_lt]; exact decide_eq_false (List.lt_irrefl _)
  trans := fun x y z h1 h2 => by
    rw [cmp_lt] at h1 h2 ⊢
    exact decide_eq_true (List.lt_trans (of_decide_eq_true h1) (of_decide_eq_true h2))
  ntrans := fun x y z h1 h2 => by
    rw [cmp_lt] at h1 h2 ⊢
    exact decide_eq_false (List.not_lt.2 (List.le_trans (List.not_lt.1 (of_decide_eq_false h2)) (List.not_lt.1 (of_decide_eq_false h1))))
theorem data_inj {a b : ByteArray} (h : a.toList = b.toList) : a = b := by
  rw [Lib.toList_data, Lib.toList_data] at h
  obtain ⟨⟨x⟩⟩ := a
  obtain ⟨⟨y⟩⟩ := b
  have : x = y := h
  rw [this]
theorem merged_of {l d d2 : List S36} (hmem : ∀ p : S36, p ∈ d ↔ (p.f0, p.f1) ∈ mapOf l ∧ neS p = true) (hnd : (d.map (·.f0)).Nodup) (hp : d2.Perm d) (hs : ∀ i j (hj : j < d2.length) (hij : i < j), ¬ d2[j].f0.toList < (d2[i]'(by omega)).f0.toList) : Merged l d2 where
  mem := fun p => by rw [hp.mem_iff, hmem]
  rise := by
    have hn2 : (d2.map (·.f0)).Nodup := (hp.map _).nodup_iff.2 hnd
    rw [List.pairwise_iff_getElem]
    intro i j hi hj hij
    rcases Decidable.em (d2[i].f0.toList < d2[j].f0.toList) with h | h
    · exact h
    · exfalso
      have h2 := List.le_antisymm (List.not_lt.1 (hs i j hj hij)) (List.not_lt.1 h)
      have h3 : (d2.map (·.f0))[i]'(by simpa using hi) = (d2.map (·.f0))[j]'(by simpa using hj) := by simpa using data_inj h2
      exact (List.pairwise_iff_getElem.1 hn2 i j _ _ hij) h3
set_option maxHeartbeats 8000000 in
set_option maxRecDepth 100000 in
theorem mg.merge (A0 A1 : Option Addr) (c0 c1 : Nat) (l0 l1 : List S36) (w : World) (hr0 : Kd.C k36 w A0 l0.length l0) (hr1 : Kd.C k36 w A1 l1.length l1) (hc0 : l0.length ≤ c0) (hc1 : l1.length ≤ c1) (hl : l0.length + l1.length ≤ 1099511627776) :
    Calls Tryd.prog 10 #[.slice A0 l0.length c0, .slice A1 l1.length c1] w fun e w' => ∃ (v : Value) (d : List S36), e = .returned v ∧ Kd.R k36 36 w' w.heap.size (fun _ => True) v d ∧ Merged (l0 ++ l1) d ∧ Below w.heap.size w w' := by
  have HL := Aside0.mk hl
  have HR0 := Aside0.mk hr0
  have HR1 := Aside0.mk hr1
  clear hr0 hr1 hl
  have hmm := @run_makeMap Tryd.prog
  go_enter Tryd.func10, Tryd.ntmps10
  go_wp2_with fail
  obtain ⟨W1, hW1⟩ : ∃ W1, w.alloc (.map #[] 0) = W1 := ⟨_, rfl⟩
  have hs1 : W1.heap.size = w.heap.size + 1 := by rw [← hW1]; simp
  have hB1 : Below w.heap.size w W1 := by rw [← hW1]; exact below_alloc (Below.refl _ _) _
  have hM1 : MapAt keyStr Value.string W1 w.heap.size (mapOf []) := by rw [← hW1]; exact MapAt.made w
  rw [hW1]
  clear hW1
  rw [← hs1]
  have cc0 : (W1.alloc (.cells #[Value.slice A0 l0.length c0, Value.slice A1 l1.length c1] 22)).cell? ⟨W1.heap.size, 0, none⟩ = some (.slice A0 l0.length c0) := by rw [World.cell?_alloc_new]; rfl
  have cc1 : (W1.alloc (.cells #[Value.slice A0 l0.length c0, Value.slice A1 l1.length c1] 22)).cell? ⟨W1.heap.size, 1, none⟩ = some (.slice A1 l1.length c1) := by rw [World.cell?_alloc_new]; rfl
  have hM2 : MapAt keyStr Value.string (W1.alloc (.cells #[Value.slice A0 l0.length c0, Value.slice A1 l1.length c1] 22)) w.heap.size (mapOf []) := hM1.of_block (Below.heap_alloc _ _ _ (by omega))
  have hB2 := below_alloc hB1 (.cells #[Value.slice A0 l0.length c0, Value.slice A1 l1.length c1] 22)
  have hcat := mg.concat W1.heap.size A0 A1 c0 c1 l0 l1 (W1.alloc (.cells #[Value.slice A0 l0.length c0, Value.slice A1 l1.length c1] 22)) (by simp) cc0 cc1 (Kd.C_below HR0.out hB2) (Kd.C_below HR1.out hB2) HL.out
  have hsz2 : (W1.alloc (.cells #[Value.slice A0 l0.length c0, Value.slice A1 l1.length c1] 22)).heap.size = w.heap.size + 2 := by simp [hs1]
  generalize W1.alloc (.cells #[Value.slice A0 l0.length c0, Value.slice A1 l1.length c1] 22) = W2 at hcat hM2 hB2 hsz2 ⊢
  refine hcat.mono ?_
  rintro e w3 ⟨v, rfl, ho, hB⟩
  obtain ⟨A, cA, rfl⟩ := Kd.R_slice ho
  obtain ⟨L, hLL⟩ : ∃ L, L = l0 ++ l1 := ⟨_, rfl⟩
  have hLn : L.length ≤ 1099511627776 := by rw [hLL, List.length_append]; exact HL.out
  rw [← hLL] at ho ⊢
  have HO := Aside0.mk (Kd.R_lower (Kd.R_mono (ok' := fun k => w.heap.size + 1 ≤ k) ho (fun k hk => by omega)) (base' := w.heap.size + 1) (by omega))
  have HB := Aside0.mk (hB2.trans (hB.mono (by omega)))
  have HM := Aside0.mk (hM2.of_block (hB.block w.heap.size (by omega)))
  have HLL := Aside0.mk hLL
  have HLN := Aside0.mk hLn
  clear hcat hM2 hB2 hsz2 ho hB hs1 hB1 hM1 cc0 cc1 HR0 HR1 HL hmm hLL hLn
  go_wp2_with fail
  go_loopw [17] (fun v17 wr => ∃ i : Nat, v17 = .int .i64 (i : Int) ∧ Aside0 (i ≤ L.length) ∧ Aside0 (Kd.R k36 36 wr (w.heap.size + 1) (fun k => w.heap.size + 1 ≤ k) (.slice A L.length cA) L) ∧ Aside0 (Below w.heap.size w wr) ∧ Aside0 (MapAt keyStr Value.string wr w.heap.size (mapOf (L.take i)))) (fun v17 wr => L.length - (intOf v17).toNat)
  case atStart => exact ⟨0, rfl, ⟨by omega⟩, HO, HB, HM⟩
  case round =>
    clear HO HB HM
    obtain ⟨i, rfl, HI, HO, HB, HM⟩ := hrel
    by_cases hlt : i < L.length
    · have hb : decide ((i : Int) < (L.length : Int)) = true := decide_eq_true (by omega)
      have hb' : decide (i < L.length) = true := decide_eq_true hlt
      obtain ⟨ad, eA, x0, x1⟩ := at_T36 (Kd.R_reads' HO.out).2.2 (i : Int) (by omega) (by omega)
      obtain ⟨x, hx⟩ : ∃ x, x = rd_T36 L (i : Int) := ⟨_, rfl⟩
      rw [← hx] at x0 x1
      simp only [Int.toNat_natCast] at x0 x1
      have hx2 : L.take (i + 1) = L.take i ++ [x] := by rw [hx, List.take_add_one, List.getElem?_eq_getElem hlt]; simp [rd_T36, hlt]
      have HX := Aside0.mk hx2
      have HT := Aside0.mk hlt
      have hwi : IntKind.i64.wrap ((i : Int) + 1) = ((i + 1 : Nat) : Int) := by rw [IntWalk.i64_in _ (by have := HLN.out; omega)]; omega
      have q1 : ((i : Int) < (L.length : Int)) = True := eq_true (by omega)
      have q2 : (i < L.length) = True := eq_true hlt
      cases eA
      have hM4 : MapAt keyStr Value.string (wr.alloc (.cells #[.string x.f0, .string x.f1] 36)) w.heap.size (mapOf (L.take i)) := HM.out.of_block (Below.heap_alloc _ _ _ HM.out.lt)
      obtain ⟨w5, hput, hM5, hT5⟩ := hM4.put (P := Tryd.prog) (t := 51) (kt := 9) (et := 9) Tryd.underlying51 Tryd.underlying9 x.f0 x.f1
      have hput' : (Instr.mapUpdate 51 (.map (some w.heap.size)) (.string x.f0) (.string x.f1)).run Tryd.prog (wr.alloc (.cells #[.string x.f0, .string x.f1] 36)) = .ok () w5 := hput
      have HM5 := Aside0.mk hM5
      have HT5 := Aside0.mk (turned_grown hT5)
      clear hx hx2 hlt hput hM4 hM5 hT5
      go_wp2_with fail
      have hmL := HM5.out
      rw [← mapOf_snoc, ← HX.out] at hmL
      exact ⟨⟨i + 1, rfl, ⟨HT.out⟩, ⟨Kd.R_grown (Kd.R_alloc HO.out _) HT5.out (fun k hk e => by cases e; omega)⟩, ⟨(below_alloc HB.out _).grown HT5.out (by have := below_size HB.out; simp; omega) (fun k e => by cases e; exact Nat.le_refl _)⟩, ⟨hmL⟩⟩, by have := HT.out; simp [intOf]; omega⟩
    · have hb : decide ((i : Int) < (L.length : Int)) = false := decide_eq_false (by omega)
      have hb' : decide (i < L.length) = false := decide_eq_false hlt
      have hiL : i = L.length := by have := HI.out; omega
      have hM := HM.out
      rw [hiL, List.take_length] at hM
      clear hiL
      obtain ⟨es, clock, hes, hE, hold, hnd⟩ := hM
      have HE := Aside0.mk hE
      have hesz : es.size ≤ L.length := by have h1 := hE.len; have h2 := mapOf_len L []; rw [Array.length_toList] at h1; rw [h1]; simpa [mapOf] using h2
      have HESZ := Aside0.mk hesz
      have HOLD := Aside0.mk hold
      have HND := Aside0.mk hnd
      have hrg := run_range_map (P := Tryd.prog) wr 51 9 9 w.heap.size es clock Tryd.underlying51 hes
      have hlt' : w.heap.size < wr.heap.size := HM.out.lt
      have h6 : (wr.alloc (.mapIter (some w.heap.size) clock #[] clock)).heap[w.heap.size]? = some (.map es clock) := (Below.heap_alloc _ _ _ hlt').trans hes
      have h7 : (wr.alloc (.mapIter (some w.heap.size) clock #[] clock)).heap[wr.heap.size]? = some (.mapIter (some w.heap.size) clock #[] clock) := Go.heap_alloc_new _ _
      have H6 := Aside0.mk h6
      have H7 := Aside0.mk h7
      have HB6 := Aside0.mk (below_alloc HB.out (.mapIter (some w.heap.size) clock #[] clock))
      clear HO HM hE hold hnd hes h6 h7 HB hesz
      go_wp2_with fail
      have hW5 : (wr.alloc (.mapIter (some w.heap.size) clock #[] clock)).heap.size = wr.heap.size + 1 := by simp
      generalize wr.alloc (.mapIter (some w.heap.size) clock #[] clock) = W5 at H6 H7 HB6 hW5 hrg ⊢
      generalize wr.heap.size = rI at H7 hlt' hW5 hrg ⊢
      have HS5 := Aside0.mk hW5
      clear hrg hW5
      go_loopw [8] (fun v8 w6 => ∃ (seen : Array Nat) (cc : Nat) (ps : List S36), Aside0 (w6.heap[rI]? = some (.mapIter (some w.heap.size) clock seen cc)) ∧ Aside0 (clock ≤ cc) ∧ Aside0 (w6.heap[w.heap.size]? = some (.map es clock)) ∧ Aside0 (Kd.R k36 36 w6 (w.heap.size + 1) (fun k => w.heap.size + 1 ≤ k ∧ k ≠ rI) v8 (ps.filter neS)) ∧ Aside0 (Below w.heap.size w w6) ∧ Aside0 (PSr (mapOf L) es.toList ps seen) ∧ Aside0 (rI < w6.heap.size) ∧ Aside0 (ps.length + (leftOf es seen).size ≤ es.size)) (fun v8 w6 => leftAt rI es w6)
      case atStart => exact ⟨#[], clock, [], H7, ⟨Nat.le_refl _⟩, H6, ⟨Kd.R_nil _ _ _ _ _⟩, HB6, ⟨⟨by simp, by simp, by simp⟩⟩, ⟨by have := HS5.out; omega⟩, ⟨by simp only [List.length_nil, Nat.zero_add, leftOf]; exact Array.size_filter_le⟩⟩
      case round =>
        clear H6 H7 HB6
        obtain ⟨seen, cc, ps, H7, HCC, H6, HO, HB, HP, HLT, HN⟩ := hrel
        rcases run_next_at (P := Tryd.prog) wr 0 rI w.heap.size clock cc seen es clock H7.out H6.out HOLD.out HCC.out with ⟨hleft, hnext⟩ | ⟨e, he, w7, hw7, hnext⟩
        · have HLEFT := Aside0.mk hleft
          clear hleft
          go_wp2_with fail
          have hseen := all_seen es seen HLEFT.out
          have hpe := ps_end HE.out (mapOf_nodup L [] (by simp [akeys])) HP.out hseen
          have hD : ∀ p : S36, p ∈ ps.filter neS ↔ (p.f0, p.f1) ∈ mapOf L ∧ neS p = true := fun p => by rw [List.mem_filter, hpe]
          have hDn : ((ps.filter neS).map (·.f0)).Nodup := HP.out.nodup.sublist (List.filter_sublist.map _)
          have hDl : (ps.filter neS).length ≤ 1099511627776 := by have := HN.out; have := HESZ.out; have := HLN.out; have := List.length_filter_le neS ps; omega
          obtain ⟨D, hDD⟩ : ∃ D, D = ps.filter neS := ⟨_, rfl⟩
          rw [← hDD] at HO hD hDn hDl
          have ho := HO.out
          by_cases hz : D.length = 0
          · obtain rfl := List.length_eq_zero_iff.1 hz
            obtain ⟨A8, c8, rfl⟩ := Kd.R_slice ho
            have hcon := AnyF.slices_SortFunc_none Tryd.laysSort A8 c8 (.func (.func 29) #[] #[]) wr
            change Calls Tryd.prog 28 _ _ _ at hcon
            refine hcon.mono ?_
            rintro e2 w9 ⟨rfl, rfl⟩
            have HD := Aside0.mk hD
            clear hseen hpe hD hDn hDl hDD hcon hz ho
            go_wp2_with fail
            go_ret
            exact ⟨_, [], rfl, Kd.R_lower (Kd.R_mono HO.out (fun _ _ => trivial)) (by omega), merged_of (by rw [← HLL.out]; exact HD.out) (by simp) (List.Perm.refl _) (fun i j hj => by simp at hj), HB.out⟩
          · obtain ⟨g, cap, rfl⟩ : ∃ g cap, u8 = .slice (some ⟨g, 0, none⟩) D.length cap := by
              obtain ⟨_, inner, hown, _⟩ := ho
              exact Go.Joins.ownsRow_form hown (by omega)
            have HS := fun n os => fun d' hl => mg.sorted (n := n) (os := os) (d' := d') ho hl
            have hsrt := HS 0 #[] D rfl
            have eg : ∀ args w, (callFunc 29 args).run Tryd.prog w = .ok (.enter 29 args) w := enters_of Tryd.func29 (by kernel_rfl) rfl
            have hcon := AnyQ.slices_SortFunc Tryd.laysSort 2 Tryd.isAgg36 Tryd.sizeOf36 encP (fun _ => rfl) (fun x v hv => by simp [encP] at hv; rcases hv with rfl | rfl <;> rfl) (fun x y => cmpS x.f0 y.f0) cmp_swo 29 #[] g 0 cap D.toArray wr eg (mg.cmpLays g 0 D.toArray.size wr) hsrt.1 hsrt.2.2.2.1 (by simp; omega)
            change Calls Tryd.prog 28 _ _ _ at hcon
            refine hcon.mono ?_
            rintro e2 w9 ⟨rfl, d2, n2, os2, hperm, hsorted, rfl⟩
            have hsz : d2.size = D.length := by simpa using hperm.1
            have hl2 : d2.toList.length = D.length := by simpa using hsz
            obtain ⟨_, hR2, hg2, hgl, hgb⟩ := HS n2 os2 d2.toList hl2
            have hp2 : d2.toList.Perm D := by
              have h := hperm.2.2
              have e1 : d2.extract 0 D.toArray.size = d2 := by rw [show D.toArray.size = d2.size by simpa using hsz.symm]; simp
              have e2 : D.toArray.extract 0 D.toArray.size = D.toArray := by simp
              rw [e1, e2] at h
              simpa using h
            have hMg : Merged (l0 ++ l1) d2.toList := by
              rw [← HLL.out]
              refine merged_of hD hDn hp2 (fun i j hj hij => ?_)
              have h1 := hsorted i j (Nat.zero_le _) hij (by simpa [hsz] using hl2 ▸ hj)
              rw [cmp_lt] at h1
              have h2 := of_decide_eq_false h1
              have hj2 : j < d2.size := by simpa using hj
              rw [getElem!_pos d2 j hj2, getElem!_pos d2 i (by omega)] at h2
              simpa using h2
            have HR2 := Aside0.mk hR2
            have HG2 := Aside0.mk hg2
            have HMg := Aside0.mk hMg
            have HGB := Aside0.mk hgb
            rw [show d2.toList.toArray = d2 from by simp] at HR2 HG2
            generalize sortWorldK encP 2 wr g 0 n2 d2 os2 = w9 at *
            clear hseen hpe hD hDn hDl hDD hcon hz ho HS hsrt eg hsz hl2 hR2 hg2 hgl hgb hp2 hMg hperm hsorted
            go_wp2_with fail
            go_ret
            exact ⟨_, _, rfl, Kd.R_lower (Kd.R_mono HR2.out (fun _ _ => trivial)) (by omega), HMg.out, HB.out.grown HG2.out (by have := below_size HB.out; omega) (fun k e2 => by have := HGB.out; cases e2; omega)⟩
        · have hmem := mem_left he
          have hsh := left_shrinks es seen e he
          obtain ⟨p, hp, hk, hv⟩ := es_mem HE.out e hmem.1
          have hb7 : w7.heap = wr.heap := by rcases hw7 with rfl | rfl <;> rfl
          have hB7 : Below w.heap.size w w7 := by rcases hw7 with rfl | rfl; exact HB.out; exact HB.out.drew
          have hR7 : Kd.R k36 36 w7 (w.heap.size + 1) (fun k => w.heap.size + 1 ≤ k ∧ k ≠ rI) u8 (ps.filter neS) := by rcases hw7 with rfl | rfl; exact HO.out; exact Kd.R_drew HO.out
          have hr7 : w7.heap[rI]? = some (.mapIter (some w.heap.size) clock seen cc) := by rw [hb7]; exact H7.out
          have hT := turned_setBlock (w := w7) (o' := .mapIter (some w.heap.size) clock (seen.push e.born) clock) hr7
          have hset := heap_setBlock (w := w7) (o' := .mapIter (some w.heap.size) clock (seen.push e.born) clock) hr7
          have hes8 : (ChangeMaps.setBlock w7 rI (.mapIter (some w.heap.size) clock (seen.push e.born) clock)).heap[w.heap.size]? = some (.map es clock) := by rw [hT.block _ (by omega), hb7]; exact H6.out
          have hent := run_entry_at (P := Tryd.prog) _ rI w.heap.size clock seen es clock e hset hes8 hmem.1 HND.out
          rw [hk, hv] at hnext hent
          have HPS := Aside0.mk (ps_step HE.out (mapOf_nodup L [] (by simp [akeys])) HND.out HP.out hmem.1 hmem.2 hk (v := p.2) hp)
          have HR8 := Aside0.mk (Kd.R_grown hR7 (turned_grown hT) (fun k hk e2 => hk.2 (by cases e2; rfl)))
          have HB8 := Aside0.mk (hB7.grown (turned_grown hT) (by rw [hb7]; have := HLT.out; omega) (fun k e2 => by cases e2; omega))
          have hz8 : (ChangeMaps.setBlock w7 rI (.mapIter (some w.heap.size) clock (seen.push e.born) clock)).heap.size = wr.heap.size := by rw [hT.size, hb7]
          have HZ8 := Aside0.mk hz8
          have HSET := Aside0.mk hset
          have HES8 := Aside0.mk hes8
          have HSH := Aside0.mk hsh
          have hm0 : leftAt rI es wr = (leftOf es seen).size := by unfold leftAt; rw [H7.out]
          have HM0 := Aside0.mk hm0
          clear hmem hsh hk hv hw7 hb7 hB7 hR7 hr7 hT hset hes8 he hz8 hm0 hp
          generalize ChangeMaps.setBlock w7 rI (.mapIter (some w.heap.size) clock (seen.push e.born) clock) = w8 at *
          obtain ⟨k, v⟩ := p
          dsimp only at hnext hent HPS
          by_cases hne : v.toList = ([] : List UInt8)
          · have c0 : (v.toList == ([] : List UInt8)) = true := beq_iff_eq.2 hne
            have c1 : (v.toList != ([] : List UInt8)) = false := bne_eq_false_iff_eq.2 hne
            have c2 : v.toList.isEmpty = true := by rw [hne]; rfl
            have HNE := Aside0.mk hne
            clear hne
            go_wp2_with fail
            have hfil : (ps ++ [(⟨k, v⟩ : S36)]).filter neS = ps.filter neS := by rw [List.filter_append]; simp [neS, HNE.out]
            exact ⟨⟨_, _, _, HSET, ⟨Nat.le_refl _⟩, HES8, ⟨by rw [hfil]; exact HR8.out⟩, HB8, HPS, ⟨by have := HZ8.out; have := HLT.out; omega⟩, ⟨by have := HN.out; have := HSH.out; simp only [List.length_append, List.length_singleton]; omega⟩⟩, by rw [HM0.out]; unfold leftAt; rw [HSET.out]; exact HSH.out⟩
          · have c0 : (v.toList == ([] : List UInt8)) = false := beq_eq_false_iff_ne.2 hne
            have c1 : (v.toList != ([] : List UInt8)) = true := bne_iff_ne.2 hne
            have c2 : v.toList.isEmpty = false := by cases h : v.toList with | nil => exact absurd h hne | cons a b => rfl
            have HNE := Aside0.mk hne
            clear hne
            have hs8 : w.heap.size + 1 ≤ w8.heap.size := by have := HZ8.out; have := HLT.out; omega
            go_wp2_with ((with_reducible refine gate_builtin (b := .append) (xs := #[.tmp 36, .tmp 40]) rfl ?_); at_builtin; refine Kd.R_append k36 (w0 := w8) (w.heap.size + 1) rfl (.tmp 36) (.tmp 40) 22 36 (.agg #[(.string ⟨#[]⟩), (.string ⟨#[]⟩)]) 32 rfl Tryd.underlying22 mg.info rfl (by decide) (by omega) u8 (ps.filter neS) (⟨k, v⟩ : S36) [.string k, .string v] (fun k => w.heap.size + 1 ≤ k ∧ k ≠ rI) (fun _ => False) rfl rfl (k36_mkM _ _ _ (⟨k, v⟩ : S36)) (fun _ hk => hk.elim) (fun k hk => by have := HZ8.out; have := HLT.out; omega) HR8.out (Below.refl _ _) hs8 (by have := HN.out; have := HESZ.out; have := HLN.out; have := List.length_filter_le neS ps; omega) ?_; intro v9 w9 ho hb9 hg9 hat9; have HO9 := Aside0.mk ho; have HG9 := Aside0.mk hg9; have HAT9 := Aside0.mk hat9; clear ho hb9 hg9 hat9)
            have hfil : (ps ++ [(⟨k, v⟩ : S36)]).filter neS = ps.filter neS ++ [⟨k, v⟩] := by rw [List.filter_append]; simp [neS, HNE.out]
            have hown := HR8.out.1
            have hz := HZ8.out
            have hl8 := HLT.out
            have hr9 : w9.heap[rI]? = some (.mapIter (some w.heap.size) clock (seen.push e.born) clock) := (HG9.out.block rI (by omega) (fun e2 => (hown rI e2.symm).2 rfl)).trans HSET.out
            exact ⟨⟨_, _, ps ++ [⟨k, v⟩], ⟨hr9⟩, ⟨Nat.le_refl _⟩, ⟨(HG9.out.block w.heap.size (by omega) (fun e2 => by have := (hown w.heap.size e2.symm).1; omega)).trans HES8.out⟩, ⟨by rw [hfil]; exact HO9.out⟩, ⟨HB8.out.grown HG9.out (by omega) (fun k e2 => by have := (hown k e2).1; omega)⟩, HPS, ⟨by have := HG9.out.size; omega⟩, ⟨by have := HN.out; have := HSH.out; simp only [List.length_append, List.length_singleton]; omega⟩⟩, by rw [HM0.out]; unfold leftAt; rw [hr9]; exact HSH.out⟩

theorem rise_unique : ∀ {a b : List S36}, a.Pairwise (fun x y => x.f0.toList < y.f0.toList) → b.Pairwise (fun x y => x.f0.toList < y.f0.toList) → (∀ p, p ∈ a ↔ p ∈ b) → a = b
  | [], [], _, _, _ => rfl
  | [], y :: b, _, _, h => by have := (h y).2 (by simp); simp at this
  | x :: a, [], _, _, h => by have := (h x).1 (by simp); simp at this
  | x :: a, y :: b, ha, hb, h => by
    rw [List.pairwise_cons] at ha hb
    have hxy : x = y := by
      rcases List.mem_cons.1 ((h x).1 (by simp)) with e | e
      · exact e
      · rcases List.mem_cons.1 ((h y).2 (by simp)) with e2 | e2
        · exact e2.symm
        · exact absurd (List.lt_trans (ha.1 y e2) (hb.1 x e)) (List.lt_irrefl _)
    subst hxy
    rw [rise_unique ha.2 hb.2 (fun p => ?_)]
    have hp := h p
    simp only [List.mem_cons] at hp
    constructor
    · intro hm
      rcases hp.1 (.inr hm) with e | e
      · subst e; exact absurd (ha.1 p hm) (List.lt_irrefl _)
      · exact e
    · intro hm
      rcases hp.2 (.inr hm) with e | e
      · subst e; exact absurd (hb.1 p hm) (List.lt_irrefl _)
      · exact e
theorem Merged.unique {l a b : List S36} (ha : Merged l a) (hb : Merged l b) : a = b := rise_unique ha.rise hb.rise (fun p => by rw [ha.mem, hb.mem])
def mergeS (l : List S36) : List S36 := (((mapOf l).map fun p => (⟨p.1, p.2⟩ : S36)).filter neS).mergeSort fun x y => decide (x.f0.toList ≤ y.f0.toList)
theorem mergeS_is (l : List S36) : Merged l (mergeS l) := by
  have hk : ((((mapOf l).map fun p => (⟨p.1, p.2⟩ : S36)).filter neS).map (·.f0)).Nodup := by
    refine List.Nodup.sublist (List.filter_sublist.map _) ?_
    have := mapOf_nodup l [] (by simp [akeys])
    rw [List.map_map]
    exact this
  unfold mergeS
  obtain ⟨D, hD⟩ : ∃ D, D = ((mapOf l).map fun p => (⟨p.1, p.2⟩ : S36)).filter neS := ⟨_, rfl⟩
  rw [← hD] at hk ⊢
  refine merged_of (d := D) (fun p => ?_) hk (List.mergeSort_perm D _) (fun i j hj hij => ?_)
  · rw [hD, List.mem_filter, List.mem_map]
    constructor
    · rintro ⟨⟨q, hq, rfl⟩, h⟩; exact ⟨hq, h⟩
    · rintro ⟨h, h2⟩; exact ⟨⟨_, h, rfl⟩, h2⟩
  · have hs := List.pairwise_mergeSort (le := fun x y : S36 => decide (x.f0.toList ≤ y.f0.toList)) (fun a b c h1 h2 => decide_eq_true (List.le_trans (of_decide_eq_true h1) (of_decide_eq_true h2))) (fun a b => by rcases List.le_total a.f0.toList b.f0.toList with h | h <;> simp [h]) D
    have h := List.pairwise_iff_getElem.1 hs i j (by omega) hj hij
    exact List.not_lt.2 (of_decide_eq_true h)
def pax_Merge.f (l0 : List S36) (l1 : List S36) : Option (List S36) := if l0.length + l1.length ≤ 1099511627776 then some (mergeS (l0 ++ l1)) else none
theorem pax_Merge.calls (A0 : Option Addr) (c0 : Nat) (l0 : List S36) (A1 : Option Addr) (c1 : Nat) (l1 : List S36) (r : List S36) (w : World) (hG : Gv w) (hr0 : Kd.C k36 w A0 l0.length l0) (hc0 : l0.length ≤ c0) (hr1 : Kd.C k36 w A1 l1.length l1) (hc1 : l1.length ≤ c1) (h : pax_Merge.f l0 l1 = some r) :
    Calls Tryd.prog 10 #[.slice A0 l0.length c0, .slice A1 l1.length c1] w fun e w' => ∃ v0_ : Value, e = .returned (v0_) ∧ Kd.R k36 36 w' w.heap.size (fun _ => True) v0_ r ∧ Below w.heap.size w w' := by
  unfold pax_Merge.f at h
  split at h
  · rename_i hl
    obtain rfl := Option.some.inj h
    refine (mg.merge A0 A1 c0 c1 l0 l1 w hr0 hr1 hc0 hc1 hl).mono ?_
    rintro e w' ⟨v, d, rfl, hR, hM, hB⟩
    rw [hM.unique (mergeS_is _)] at hR
    exact ⟨v, rfl, hR, hB⟩
  · cases h
end


end Go.Proofs.YtpaghdfnhlpngaaDoor.PPaxPairs
