import Derived.Test.YtpaghdfnhlpngaaDoorPPaxMergedx
import Derived.Test.YtpaghdfnhlpngaaDoorXFind
import Derived.Lib.SplitLaws
import Derived.Lib.IndexLaws
import Derived.Lib.IndexBytes
/- Merging: what is found in what was merged; it does not matter which is merged first. -/
namespace Go.Proofs.YtpaghdfnhlpngaaDoor.MergedLaw
open Go.RowKit Go.Proofs.YtpaghdfnhlpngaaDoor.PPaxMerged Go.Proofs.YtpaghdfnhlpngaaDoorX Go.Proofs.YtpaghdfnhlpngaaDoorV Go.Proofs.YtpaghdfnhlpngaaDoorW.PrintWords Go.Proofs.YtpaghdfnhlpngaaDoorW.PrintLast
set_option linter.unusedVariables false
set_option linter.unusedSimpArgs false
def lk (l : List S36) (k : ByteArray) : Option ByteArray := aget k (mapOf l)
def ne' (v : ByteArray) : Bool := v.toList != ([] : List UInt8)
theorem lk_fold (k : ByteArray) : ∀ (l : List S36) (m : List (ByteArray × ByteArray)), aget k (l.foldl (fun m x => aset x.f0 x.f1 m) m) = (aget k (l.foldl (fun m x => aset x.f0 x.f1 m) [])).or (aget k m)
  | [], m => rfl
  | x :: l, m => by
    simp only [List.foldl_cons]
    rw [lk_fold k l (aset x.f0 x.f1 m), lk_fold k l (aset x.f0 x.f1 []), aget_aset, aget_aset, Option.or_assoc]
    by_cases h : x.f0 = k
    · simp [h]
    · simp [h, aget]
theorem lk_app (l l' : List S36) (k : ByteArray) : lk (l ++ l') k = (lk l' k).or (lk l k) := by
  unfold lk mapOf
  rw [List.foldl_append, lk_fold]
theorem lk_one (x : S36) (k : ByteArray) : lk [x] k = if x.f0 = k then some x.f1 else none := by
  unfold lk mapOf
  simp [aset, aget]
theorem hit_iff {key : ByteArray} {p : ByteArray × ByteArray} : hit key p = true ↔ p.1 = key := by
  unfold hit
  rw [beq_iff_eq]
  exact ⟨data_inj, fun h => by rw [h]⟩
theorem lk_find (key : ByteArray) : ∀ l : List S36, ((l.map fun x => (x.f0, x.f1)).reverse.find? (hit key)).map (·.2) = lk l key
  | [] => rfl
  | x :: l => by
    rw [show x :: l = [x] ++ l from rfl, lk_app, ← lk_find key l, lk_one, List.map_append, List.reverse_append, List.find?_append]
    cases h : (l.map fun x => (x.f0, x.f1)).reverse.find? (hit key) with
    | some p => simp
    | none =>
      by_cases h2 : x.f0 = key
      · subst h2
        have : hit x.f0 (x.f0, x.f1) = true := hit_iff.2 rfl
        simp [this]
      · have : hit key (x.f0, x.f1) = false := by rw [← Bool.not_eq_true, hit_iff]; exact h2
        simp [this, h2]
theorem findS_lk (l : List S36) (key : ByteArray) : findS (l.map fun x => (x.f0, x.f1)) key = match lk l key with
    | some v => (v, true)
    | none => (⟨#[]⟩, false) := by
  rw [← lk_find]
  unfold findS
  cases (l.map fun x => (x.f0, x.f1)).reverse.find? (hit key) <;> rfl
theorem lk_mem {l : List S36} {k v : ByteArray} (h : lk l k = some v) : (⟨k, v⟩ : S36) ∈ l := by
  rw [← lk_find] at h
  obtain ⟨p, hp, rfl⟩ := Option.map_eq_some_iff.1 h
  have h1 := List.mem_of_find?_eq_some hp
  have h2 := hit_iff.1 (List.find?_some hp)
  rw [List.mem_reverse, List.mem_map] at h1
  obtain ⟨x, hx, rfl⟩ := h1
  have : (⟨k, x.f1⟩ : S36) = x := by rw [← h2]
  show (⟨k, x.f1⟩ : S36) ∈ l
  rw [this]
  exact hx
theorem lk_map {l : List S36} {k v : ByteArray} : (k, v) ∈ mapOf l ↔ lk l k = some v := ⟨fun h => aget_of_mem (mapOf_nodup l [] (by simp [akeys])) h, fun h => aget_mem h⟩
theorem rise_keys {d : List S36} (h : d.Pairwise (fun x y => x.f0.toList < y.f0.toList)) : (d.map (·.f0)).Nodup := by
  rw [List.nodup_iff_pairwise_ne, List.pairwise_map]
  exact h.imp (fun hab e => by rw [e] at hab; exact List.lt_irrefl _ hab)
theorem lk_of_mem {d : List S36} (hn : (d.map (·.f0)).Nodup) {k v : ByteArray} (h : (⟨k, v⟩ : S36) ∈ d) : lk d k = some v := by
  cases hl : lk d k with
  | none =>
    rw [← lk_find, Option.map_eq_none_iff, List.find?_eq_none] at hl
    exact absurd (hit_iff.2 rfl) (hl (k, v) (by rw [List.mem_reverse, List.mem_map]; exact ⟨_, h, rfl⟩))
  | some u =>
    have := nodup_inj (·.f0) hn (lk_mem hl) h rfl
    injection this with _ e
    rw [e]
theorem lk_merge (l : List S36) (k : ByteArray) : lk (mergeS l) k = (lk l k).filter ne' := by
  have hM := mergeS_is l
  have hn := rise_keys hM.rise
  have hiff : ∀ v, lk (mergeS l) k = some v ↔ lk l k = some v ∧ ne' v = true := fun v => by
    constructor
    · intro h
      have := (hM.mem _).1 (lk_mem h)
      exact ⟨lk_map.1 this.1, this.2⟩
    · intro ⟨h1, h2⟩
      exact lk_of_mem hn ((hM.mem ⟨k, v⟩).2 ⟨lk_map.2 h1, h2⟩)
  apply Option.ext
  intro v
  rw [hiff, Option.filter_eq_some_iff]
theorem merge_eq {x y : List S36} (h : ∀ k, (lk x k).filter ne' = (lk y k).filter ne') : mergeS x = mergeS y := by
  refine rise_unique (mergeS_is x).rise (mergeS_is y).rise (fun p => ?_)
  have hh : ∀ z, p ∈ mergeS z ↔ lk (mergeS z) p.f0 = some p.f1 := fun z => ⟨fun hm => lk_of_mem (rise_keys (mergeS_is z).rise) hm, fun hm => lk_mem hm⟩
  rw [hh, hh, lk_merge, lk_merge, h]
def fullS (l : List S36) : Bool := l.all neS
theorem lk_full {l : List S36} (h : fullS l = true) {k v : ByteArray} (hv : lk l k = some v) : ne' v = true := List.all_eq_true.1 h _ (lk_mem hv)
theorem merge_assoc (a b c : List S36) (hb : fullS b = true) (hc : fullS c = true) : mergeS (a ++ mergeS (b ++ c)) = mergeS (mergeS (a ++ b) ++ c) := by
  refine merge_eq (fun k => ?_)
  rw [lk_app, lk_app, lk_merge, lk_merge, lk_app, lk_app]
  have h1 := @lk_full b hb k
  have h2 := @lk_full c hc k
  cases hcv : lk c k with
  | some v => simp [Option.filter, h2 hcv]
  | none =>
    cases hbv : lk b k with
    | some v => simp [Option.filter, h1 hbv]
    | none =>
      cases hav : lk a k with
      | none => rfl
      | some v => cases hn : ne' v <;> simp [Option.filter, hn]
theorem merge_full (l : List S36) : fullS (mergeS l) = true := List.all_eq_true.2 (fun p hp => ((mergeS_is l).mem p).1 hp |>.2)
theorem merge_len (l : List S36) : (mergeS l).length ≤ l.length := by
  unfold mergeS
  rw [List.length_mergeSort]
  refine Nat.le_trans (List.length_filter_le _ _) ?_
  rw [List.length_map]
  simpa [mapOf] using mapOf_len l []
end Go.Proofs.YtpaghdfnhlpngaaDoor.MergedLaw

/- What is computed with enough fuel; the pieces between slashes: the program's (strings.Split) and the reference's are the same. -/
namespace Go.Proofs.YtpaghdfnhlpngaaDoor.MergedLaw
open Go.RowKit Go.Proofs.YtpaghdfnhlpngaaDoor.PPaxMerged Go.Proofs.YtpaghdfnhlpngaaDoorW.PrintWords Go.Proofs.YtpaghdfnhlpngaaDoorW.PrintLast
set_option linter.unusedVariables false
set_option linter.unusedSimpArgs false
section
variable {α β : Type}
/-- With enough fuel a value of which P is so. -/
def Ev (g : Nat → Option α) (P : α → Prop) : Prop := ∃ K, ∀ k, K ≤ k → ∃ v, g k = some v ∧ P v
theorem Ev.const {v : α} {P : α → Prop} (h : P v) : Ev (fun _ => some v) P := ⟨0, fun _ _ => ⟨v, rfl, h⟩⟩
theorem Ev.bind {f : Nat → Option α} {g : Nat → α → Option β} {Q : β → Prop} {a : α} (hf : Ev f (· = a)) (hg : Ev (fun k => g k a) Q) : Ev (fun k => (f k).bind (g k)) Q := by
  obtain ⟨K1, h1⟩ := hf
  obtain ⟨K2, h2⟩ := hg
  refine ⟨max K1 K2, fun k hk => ?_⟩
  obtain ⟨v, e, rfl⟩ := h1 k (by omega)
  show ∃ u, (f k).bind (g k) = some u ∧ Q u
  rw [e]
  exact h2 k (by omega)
theorem Ev.bindP {f : Nat → Option α} {g : Nat → α → Option β} {P : α → Prop} {Q : β → Prop} (hf : Ev f P) (hg : ∃ K, ∀ k, K ≤ k → ∀ v, P v → ∃ r, g k v = some r ∧ Q r) : Ev (fun k => (f k).bind (g k)) Q := by
  obtain ⟨K1, h1⟩ := hf
  obtain ⟨K2, h2⟩ := hg
  refine ⟨max K1 K2, fun k hk => ?_⟩
  obtain ⟨v, e, hp⟩ := h1 k (by omega)
  show ∃ u, (f k).bind (g k) = some u ∧ Q u
  rw [e]
  exact h2 k (by omega) v hp
theorem Ev.succ {g : Nat → Option α} {P : α → Prop} (h : Ev (fun k => g (k + 1)) P) : Ev g P := by
  obtain ⟨K, h⟩ := h
  refine ⟨K + 1, fun k hk => ?_⟩
  obtain ⟨m, rfl⟩ : ∃ m, k = m + 1 := ⟨k - 1, by omega⟩
  exact h m (by omega)
theorem Ev.ite {c : Prop} [Decidable c] {f g : Nat → Option α} {P : α → Prop} (h1 : c → Ev f P) (h2 : ¬ c → Ev g P) : Ev (fun k => if c then f k else g k) P := by
  by_cases h : c
  · simpa [h] using h1 h
  · simpa [h] using h2 h
theorem Ev.imp {f : Nat → Option α} {P Q : α → Prop} (h : Ev f P) (hi : ∀ v, P v → Q v) : Ev f Q := by
  obtain ⟨K, h⟩ := h
  exact ⟨K, fun k hk => by obtain ⟨v, e, hp⟩ := h k hk; exact ⟨v, e, hi v hp⟩⟩
theorem Ev.at {f : Nat → Option α} {v : α} (K : Nat) (h : ∀ k, K ≤ k → f k = some v) : Ev f (· = v) := ⟨K, fun k hk => ⟨v, h k hk, rfl⟩⟩
end
theorem w64 {n : Int} (h0 : -9223372036854775808 ≤ n) (h1 : n ≤ 9223372036854775807) : wrap64 n = n := by unfold wrap64; omega
theorem w_succ {i : Nat} (h : i ≤ 4611686018427387904) : wrap64 ((i : Int) + 1) = ((i + 1 : Nat) : Int) := (w64 (by omega) (by omega)).trans (by omega)

/-! ### pieces -/
def cutL (c : UInt8) : List UInt8 → List (List UInt8)
  | [] => [[]]
  | x :: xs => if x = c then [] :: cutL c xs else match cutL c xs with
    | [] => [[x]]
    | h :: t => (x :: h) :: t
def glue (p : List UInt8) : List (List UInt8) → List (List UInt8)
  | [] => [p]
  | h :: t => (p ++ h) :: t
theorem split_cut (c : UInt8) : ∀ L : List UInt8, Lib.splitK [c] 0 (Lib.count L [c]) L = cutL c L
  | [] => by rw [Lib.count_miss (by simp [Lib.index])]; rfl
  | b :: l => by
    have ih := split_cut c l
    by_cases h : b = c
    · subst h
      have hix : Lib.index (b :: l) [b] = 0 := by rw [Lib.index]; simp [List.isPrefixOf]
      rw [Lib.count_cons_eq, Nat.add_comm, Lib.splitK, if_neg (by rw [hix]; decide), hix]
      simp only [cutL, if_pos]
      rw [← ih]
      rfl
    · have hp : ([c] : List UInt8).isPrefixOf (b :: l) = false := by simp [List.isPrefixOf, Ne.symm h]
      have hix : Lib.index (b :: l) [c] = if Lib.index l [c] == -1 then -1 else Lib.index l [c] + 1 := by rw [Lib.index, hp]; simp
      rw [Lib.count_cons_ne b c l h]
      simp only [cutL, if_neg h]
      by_cases hm : Lib.index l [c] = -1
      · rw [Lib.count_miss hm] at ih ⊢
        rw [← ih]
        rfl
      · have hge := Lib.index_ge l [c]
        obtain ⟨j, hj⟩ : ∃ j : Nat, Lib.index l [c] = j := ⟨(Lib.index l [c]).toNat, by omega⟩
        rw [Lib.count_hit (by simp) hj, Nat.add_comm] at ih ⊢
        rw [Lib.splitK, if_neg (by rw [hj]; simp), hj] at ih
        have hb : (Lib.index l [c] == -1) = false := by simpa using hm
        have hix2 : Lib.index (b :: l) [c] = ((j + 1 : Nat) : Int) := by rw [hix, hb, hj]; simp
        rw [Lib.splitK, if_neg (by rw [hix2]; simp; try omega), hix2, ← ih]
        simp
def pcs (s : ByteArray) : List ByteArray := Lib.splitB ⟨#[47]⟩ 0 (Lib.countB s ⟨#[47]⟩) s
theorem pcs_data (s : ByteArray) : (pcs s).map (·.data.toList) = cutL 47 s.data.toList := by
  rw [pcs, Lib.splitB_data]
  exact split_cut 47 _
theorem cut_length (c : UInt8) : ∀ L : List UInt8, (cutL c L).length ≤ L.length + 1
  | [] => by simp [cutL]
  | x :: xs => by
    have ih := cut_length c xs
    unfold cutL
    split
    · simp; omega
    · split
      · simp
      · rename_i h t he
        rw [he] at ih
        simp at ih ⊢
        omega
theorem pcs_length (s : ByteArray) : (pcs s).length ≤ s.size + 1 := by
  have h := congrArg List.length (pcs_data s)
  have := cut_length 47 s.data.toList
  rw [List.length_map] at h
  rw [Lib.size_eq]
  omega
theorem cutL_cons (c x : UInt8) (xs : List UInt8) : cutL c (x :: xs) = if x = c then [] :: cutL c xs else match cutL c xs with
    | [] => [[x]]
    | h :: t => (x :: h) :: t := rfl
theorem cut_ne (c : UInt8) : ∀ L : List UInt8, cutL c L ≠ []
  | [] => by simp [cutL]
  | x :: xs => by
    rw [cutL_cons]
    generalize cutL c xs = Y
    split
    · simp
    · cases Y <;> simp
theorem glue_nil {X : List (List UInt8)} (h : X ≠ []) : glue [] X = X := by
  cases X with
  | nil => exact absurd rfl h
  | cons a b => rfl
theorem glue_cut (p : List UInt8) (x : UInt8) (xs : List UInt8) (c : UInt8) : glue p (cutL c (x :: xs)) = if x = c then p :: cutL c xs else glue (p ++ [x]) (cutL c xs) := by
  rw [cutL_cons]
  generalize cutL c xs = Y
  split
  · simp [glue]
  · cases Y <;> simp [glue]
def rest (s : ByteArray) : Nat → Nat → Nat → List ByteArray
  | 0, f, i => [s.extract f i]
  | n + 1, f, i => if s.data.toList[i]? = some 47 then s.extract f i :: rest s n (i + 1) (i + 1) else rest s n f (i + 1)
theorem rest_data (s : ByteArray) : ∀ (n f i : Nat), i + n = s.size → f ≤ i → (rest s n f i).map (·.data.toList) = glue ((s.data.toList.drop f).take (i - f)) (cutL 47 (s.data.toList.drop i))
  | 0, f, i, hi, hf => by
    have : s.data.toList.drop i = [] := List.drop_eq_nil_of_le (by rw [← Lib.size_eq]; omega)
    rw [this]
    simp [rest, cutL, glue, Lib.extract_data]
  | n + 1, f, i, hi, hf => by
    have hlt : i < s.data.toList.length := by rw [← Lib.size_eq]; omega
    rw [List.drop_eq_getElem_cons hlt, glue_cut]
    unfold rest
    rw [List.getElem?_eq_getElem hlt]
    by_cases h : s.data.toList[i] = 47
    · rw [if_pos (by rw [h]), if_pos h, List.map_cons, rest_data s n (i + 1) (i + 1) (by omega) (Nat.le_refl _), Lib.extract_data]
      simp only [Nat.sub_self, List.take_zero]
      rw [glue_nil (cut_ne _ _)]
    · rw [if_neg (by simpa using h), if_neg h, rest_data s n f (i + 1) (by omega) (by omega)]
      congr 1
      rw [show i + 1 - f = (i - f) + 1 by omega, List.take_add_one]
      congr 1
      rw [List.getElem?_drop, show f + (i - f) = i by omega, List.getElem?_eq_getElem hlt]
      rfl
end Go.Proofs.YtpaghdfnhlpngaaDoor.MergedLaw

/- The law PaxMerged: it does not matter which is merged first; what is found in what was merged. -/
namespace Go.Proofs.YtpaghdfnhlpngaaDoor.MergedLaw
open Go.RowKit Go.Proofs.YtpaghdfnhlpngaaDoor.PPaxMerged Go.Proofs.YtpaghdfnhlpngaaDoorX Go.Proofs.YtpaghdfnhlpngaaDoorV Go.Proofs.YtpaghdfnhlpngaaDoorW.PrintWords Go.Proofs.YtpaghdfnhlpngaaDoorW.PrintLast
set_option linter.unusedVariables false
set_option linter.unusedSimpArgs false
theorem lives_at : satchellaw14_lives.f 60 = some true := by decide +kernel
theorem lives_ev : Ev (fun k => satchellaw14_lives.f k) (· = true) := Ev.at 60 fun k hk => by
  obtain ⟨d, rfl⟩ := Nat.exists_eq_add_of_le hk
  induction d with
  | zero => exact lives_at
  | succ d ih => exact satchellaw14_lives.mono _ _ (ih (by omega))
theorem rd_mem {l : List S36} {i : Nat} (h : i < l.length) : rd_T36 l (i : Int) = l[i] := by simp [rd_T36, h]
theorem same_l0 (l : List S36) (hl : l.length ≤ 4398046511104) : ∀ (n k i : Nat), i + n = l.length → n + 1 ≤ k → satchellaw14_same.l0 k l l (i : Int) = some true
  | 0, k, i, hi, hk => by
    obtain ⟨k, rfl⟩ : ∃ m, k = m + 1 := ⟨k - 1, by omega⟩
    rw [satchellaw14_same.l0, if_neg (by omega)]
  | n + 1, k, i, hi, hk => by
    obtain ⟨k, rfl⟩ : ∃ m, k = m + 1 := ⟨k - 1, by omega⟩
    rw [satchellaw14_same.l0, if_pos (by omega), if_pos (by omega), if_pos (by omega), if_neg (by simp), w_succ (by omega)]
    exact same_l0 l hl n k (i + 1) (by omega) (by omega)
theorem same_ev (l : List S36) (hl : l.length ≤ 4398046511104) : Ev (fun k => satchellaw14_same.f k l l) (· = true) := Ev.at (l.length + 1) fun k hk => by
  unfold satchellaw14_same.f
  rw [if_pos rfl]
  exact same_l0 l hl l.length k 0 (by omega) (by omega)
theorem full_l0 (l : List S36) (hl : l.length ≤ 4398046511104) : ∀ (n k i : Nat), i + n = l.length → n + 1 ≤ k → satchellaw14_full.l0 k l (i : Int) = some (fullS (l.drop i))
  | 0, k, i, hi, hk => by
    obtain ⟨k, rfl⟩ : ∃ m, k = m + 1 := ⟨k - 1, by omega⟩
    rw [satchellaw14_full.l0, if_neg (by omega), List.drop_eq_nil_of_le (by omega)]
    rfl
  | n + 1, k, i, hi, hk => by
    obtain ⟨k, rfl⟩ : ∃ m, k = m + 1 := ⟨k - 1, by omega⟩
    have hlt : i < l.length := by omega
    rw [satchellaw14_full.l0, if_pos (by omega), if_pos (by omega), rd_mem hlt, w_succ (by omega), List.drop_eq_getElem_cons hlt]
    by_cases h : l[i].f1.toList = ([] : List UInt8)
    · rw [if_pos h]
      generalize List.drop (i + 1) l = r
      simp [fullS, neS, h]
    · rw [if_neg h, full_l0 l hl n k (i + 1) (by omega) (by omega)]
      generalize List.drop (i + 1) l = r
      simp [fullS, neS, h]
theorem full_ev (l : List S36) (hl : l.length ≤ 4398046511104) : Ev (fun k => satchellaw14_full.f k l) (· = fullS l) := Ev.at (l.length + 1) fun k hk => by
  have h := full_l0 l hl l.length k 0 (by omega) (by omega)
  rw [List.drop_zero] at h
  exact h
theorem find_f (l : List S36) (key : ByteArray) (hl : l.length ≤ 4398046511104) : pax_Find.f l key = some (match lk l key with
    | some v => (v, true)
    | none => (⟨#[]⟩, false)) := by
  unfold pax_Find.f
  rw [if_pos (by omega), findS_lk]
  try rfl
theorem merge_f (a b : List S36) (hl : a.length + b.length ≤ 1099511627776) : pax_Merge.f a b = some (mergeS (a ++ b)) := by
  unfold pax_Merge.f
  rw [if_pos hl]
theorem empty_list : (⟨#[]⟩ : ByteArray).toList = [] := by rw [Lib.toList_data]
theorem ne_some (w : ByteArray) : (Option.filter ne' (some w)) = if ne' w = true then some w else none := by simp [Option.filter]
/-- The last part: what is found in what was merged. -/
theorem last_ev (a b : List S36) (key : ByteArray) (ha : a.length ≤ 1048576) (hb : b.length ≤ 1048576) (m : List S36) (hm : m = mergeS (a ++ b)) (hml : m.length ≤ 4398046511104) :
    Ev (fun k => (pax_Find.f m key).bind fun bt222 => ((pax_Find.f b key).bind fun bt224 => (if bt224.2 = true then (if (bt222.2 == (bt224.1.toList != ([] : List UInt8))) = true then (if bt222.1.toList = bt224.1.toList then ((satchellaw14_full.f k m).bind fun t226 => (some t226)) else (some false)) else (some false)) else ((pax_Find.f a key).bind fun bt227 => (if bt227.2 = true then (if (bt222.2 == (bt227.1.toList != ([] : List UInt8))) = true then (if bt222.1.toList = bt227.1.toList then ((satchellaw14_full.f k m).bind fun t229 => (some t229)) else (some false)) else (some false)) else (if (bt222.2 == false) = true then (if bt222.1.toList = bt227.1.toList then ((satchellaw14_full.f k m).bind fun t230 => (some t230)) else (some false)) else (some false))))))) (· = true) := by
  have hfull : Ev (fun k => (satchellaw14_full.f k m).bind fun t => some t) (· = true) := by
    refine Ev.bind (full_ev m hml) (Ev.const ?_)
    rw [hm]
    exact merge_full _
  rw [find_f m key hml, find_f b key (by omega), find_f a key (by omega)]
  have e : lk m key = ((lk b key).or (lk a key)).filter ne' := by rw [hm, lk_merge, lk_app]
  rw [e]
  simp only [Option.bind_some]
  cases hbv : lk b key with
  | some w =>
    simp only [Option.some_or, ne_some, if_true]
    by_cases hn : ne' w = true
    · have hn2 : (w.toList != ([] : List UInt8)) = true := hn
      simp only [hn, hn2, if_true, beq_self_eq_true]
      exact hfull
    · rw [Bool.not_eq_true] at hn
      have hn2 : (w.toList != ([] : List UInt8)) = false := hn
      have hn3 : w.toList = [] := by simpa using hn2
      simp only [hn, hn3, empty_list, Bool.false_eq_true, if_false, if_true, bne_self_eq_false, beq_self_eq_true]
      exact hfull
  | none =>
    simp only [Option.none_or, Bool.false_eq_true, if_false]
    cases hav : lk a key with
    | some w =>
      simp only [ne_some, if_true]
      by_cases hn : ne' w = true
      · have hn2 : (w.toList != ([] : List UInt8)) = true := hn
        simp only [hn, hn2, if_true, beq_self_eq_true]
        exact hfull
      · rw [Bool.not_eq_true] at hn
        have hn2 : (w.toList != ([] : List UInt8)) = false := hn
        have hn3 : w.toList = [] := by simpa using hn2
        simp only [hn, hn3, empty_list, Bool.false_eq_true, if_false, if_true, bne_self_eq_false, beq_self_eq_true]
        exact hfull
    | none =>
      simp only [Option.filter_none, Bool.false_eq_true, if_false, if_true, beq_self_eq_true]
      exact hfull
theorem rise_l0 (a b : List S36) (key : ByteArray) (ha : a.length ≤ 1048576) (hb : b.length ≤ 1048576) (m : List S36) (hm : m = mergeS (a ++ b)) (hml : m.length ≤ 4398046511104) :
    ∀ (n i : Nat), m.length ≤ i + n → 1 ≤ i → i ≤ m.length + 1 → Ev (fun k => satchellaw14_PaxMerged.l0 k a b key m (i : Int)) (· = true)
  | 0, i, hi, h1, hn => by
    refine Ev.succ ?_
    simp only [satchellaw14_PaxMerged.l0]
    refine Ev.ite (fun h => absurd h (by omega)) (fun _ => ?_)
    exact last_ev a b key ha hb m hm hml
  | n + 1, i, hi, h1, hn => by
    refine Ev.succ ?_
    simp only [satchellaw14_PaxMerged.l0]
    refine Ev.ite (fun hlt0 => ?_) (fun _ => last_ev a b key ha hb m hm hml)
    have hlt : i < m.length := by omega
    have e1 : wrap64 ((i : Int) - 1) = ((i - 1 : Nat) : Int) := (w64 (by omega) (by omega)).trans (by omega)
    rw [e1, w_succ (by omega)]
    refine Ev.ite (fun _ => ?_) (fun h => absurd (by omega) h)
    refine Ev.ite (fun _ => ?_) (fun h => absurd (by omega) h)
    refine Ev.ite (fun _ => ?_) (fun h => absurd (by omega) h)
    rw [rd_mem hlt, rd_mem (show i - 1 < m.length by omega)]
    have hr : m[i - 1].f0.toList < m[i].f0.toList := by
      have := (mergeS_is (a ++ b)).rise
      rw [← hm] at this
      exact List.pairwise_iff_getElem.1 this (i - 1) i (by omega) hlt (by omega)
    refine Ev.ite (fun _ => ?_) (fun h => absurd (by rw [bytesLess_eq]; exact decide_eq_true hr) h)
    exact rise_l0 a b key ha hb m hm hml n (i + 1) (by omega) (by omega) (by omega)
theorem j0_ev (a b : List S36) (key : ByteArray) (ha : a.length ≤ 1048576) (hb : b.length ≤ 1048576) : Ev (fun k => satchellaw14_PaxMerged.j0 k a b key false) (· = true) := by
  refine Ev.succ ?_
  simp only [satchellaw14_PaxMerged.j0]
  refine Ev.ite (fun h => absurd h (by decide)) (fun _ => ?_)
  rw [merge_f a b (by omega)]
  simp only [Option.bind_some]
  have hl := merge_len (a ++ b)
  rw [List.length_append] at hl
  exact rise_l0 a b key ha hb _ rfl (by omega) (mergeS (a ++ b)).length 1 (by omega) (by omega) (by omega)
theorem law (a b c : List S36) (key : ByteArray) (ha : a.length ≤ 1048576) (hb : b.length ≤ 1048576) (hc : c.length ≤ 1048576) : ∃ k, satchellaw14_PaxMerged.f k a b c key = some true := by
  have h : Ev (fun k => satchellaw14_PaxMerged.f k a b c key) (· = true) := by
    unfold satchellaw14_PaxMerged.f
    refine Ev.bind lives_ev (Ev.ite (fun _ => ?_) (fun h => absurd rfl h))
    refine Ev.bind (full_ev b (by omega)) (Ev.ite (fun h1 => ?_) (fun _ => j0_ev a b key ha hb))
    refine Ev.bind (full_ev c (by omega)) (Ev.ite (fun h2 => ?_) (fun _ => j0_ev a b key ha hb))
    have l1 := merge_len (b ++ c)
    have l2 := merge_len (a ++ b)
    have l3 := merge_len (mergeS (a ++ b) ++ c)
    rw [List.length_append] at l1 l2 l3
    rw [merge_f b c (by omega), merge_f a b (by omega)]
    simp only [Option.bind_some]
    rw [merge_f a (mergeS (b ++ c)) (by omega), merge_f (mergeS (a ++ b)) c (by omega), merge_assoc a b c h1 h2]
    simp only [Option.bind_some]
    exact Ev.bind (same_ev _ (by omega)) (j0_ev a b key ha hb)
  obtain ⟨K, hK⟩ := h
  obtain ⟨v, e, rfl⟩ := hK K (Nat.le_refl _)
  exact ⟨K, e⟩
end Go.Proofs.YtpaghdfnhlpngaaDoor.MergedLaw
