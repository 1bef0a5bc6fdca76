/- Words of our own: a map's block as a list of pairs in the order in which its keys came; the laws at the operations. -/
import Derived.Maps.Own
import Derived.Maps.OwnOps
import Derived.Maps.OwnSet
import Derived.WalkKit
import Derived.OwnWalk
import Derived.MapKept
import Derived.Laws.OwnMore
namespace Go.Proofs.YtphbbcjmnlamaaaGreatV
open Go.RowKit
set_option linter.unusedVariables false
set_option linter.unusedSimpArgs false

/-! ### lists of pairs -/
section
variable {κ ν : Type} [DecidableEq κ]
def aget (k : κ) : List (κ × ν) → Option ν
  | [] => none
  | p :: l => if p.1 = k then some p.2 else aget k l
def aset (k : κ) (v : ν) : List (κ × ν) → List (κ × ν)
  | [] => [(k, v)]
  | p :: l => if p.1 = k then (k, v) :: l else p :: aset k v l
def adel (k : κ) : List (κ × ν) → List (κ × ν)
  | [] => []
  | p :: l => if p.1 = k then l else p :: adel k l
def aidx (k : κ) : List (κ × ν) → Option Nat
  | [] => none
  | p :: l => if p.1 = k then some 0 else (aidx k l).map (· + 1)
def akeys (l : List (κ × ν)) : List κ := l.map (·.1)
theorem aidx_none {k : κ} : ∀ {l : List (κ × ν)}, aidx k l = none → aget k l = none ∧ ∀ v, aset k v l = l ++ [(k, v)]
  | [], _ => ⟨rfl, fun _ => rfl⟩
  | p :: l, h => by
    unfold aidx at h
    split at h
    · cases h
    · rename_i hp
      have := aidx_none (l := l) (by simpa using h)
      simp only [aget, aset, if_neg hp, this.1, this.2, List.cons_append, true_and, implies_true]
theorem aidx_some {k : κ} : ∀ {l : List (κ × ν)} {i : Nat}, aidx k l = some i → ∃ v, l[i]? = some (k, v) ∧ aget k l = some v ∧ (∀ u, aset k u l = l.set i (k, u)) ∧ adel k l = l.eraseIdx i
  | [], i, h => by cases h
  | p :: l, i, h => by
    unfold aidx at h
    split at h
    · rename_i hp
      cases h
      refine ⟨p.2, by rw [← hp]; rfl, by simp only [aget, if_pos hp], fun u => by simp only [aset, if_pos hp, List.set_cons_zero], by simp only [adel, if_pos hp, List.eraseIdx_cons_zero]⟩
    · rename_i hp
      cases hj : aidx k l with
      | none => rw [hj] at h; cases h
      | some j =>
        rw [hj] at h
        simp only [Option.map_some, Option.some.injEq] at h
        subst h
        obtain ⟨v, h1, h2, h3, h4⟩ := aidx_some hj
        exact ⟨v, by simpa using h1, by simp only [aget, if_neg hp, h2], fun u => by simp only [aset, if_neg hp, h3, List.set_cons_succ], by simp only [adel, if_neg hp, h4, List.eraseIdx_cons_succ]⟩
theorem aget_none_iff {k : κ} : ∀ {l : List (κ × ν)}, aget k l = none ↔ k ∉ akeys l
  | [] => by simp [aget, akeys]
  | p :: l => by
    have := aget_none_iff (k := k) (l := l)
    unfold akeys at this ⊢
    simp only [aget, List.map_cons, List.mem_cons, not_or]
    by_cases hp : p.1 = k
    · simp [hp]
    · rw [if_neg hp, this]
      exact ⟨fun h => ⟨fun e => hp e.symm, h⟩, fun h => h.2⟩
theorem aget_mem {k : κ} {v : ν} : ∀ {l : List (κ × ν)}, aget k l = some v → (k, v) ∈ l
  | [], h => by cases h
  | p :: l, h => by
    simp only [aget] at h
    split at h
    · rename_i hp
      cases h
      rw [← hp]; simp
    · exact List.mem_cons_of_mem _ (aget_mem h)
theorem aget_of_mem {k : κ} {v : ν} : ∀ {l : List (κ × ν)}, (akeys l).Nodup → (k, v) ∈ l → aget k l = some v
  | [], _, h => by cases h
  | p :: l, hn, h => by
    unfold akeys at hn
    rw [List.map_cons, List.nodup_cons] at hn
    simp only [aget]
    rcases List.mem_cons.1 h with rfl | h
    · simp
    · rw [if_neg (fun e => hn.1 (by rw [e]; exact List.mem_map.2 ⟨_, h, rfl⟩))]
      exact aget_of_mem hn.2 h
theorem aget_aset (k j : κ) (v : ν) : ∀ (l : List (κ × ν)), aget j (aset k v l) = if k = j then some v else aget j l
  | [] => by simp [aset, aget]
  | p :: l => by
    simp only [aset]
    by_cases hp : p.1 = k
    · rw [if_pos hp]
      simp only [aget]
      by_cases hk : k = j
      · simp [hk]
      · rw [if_neg hk, if_neg hk, if_neg (fun e => hk (hp.symm.trans e))]
    · rw [if_neg hp]
      simp only [aget, aget_aset k j v l]
      by_cases hj : p.1 = j
      · rw [if_pos hj, if_pos hj, if_neg (fun e => hp (hj.trans e.symm))]
      · rw [if_neg hj, if_neg hj]
theorem akeys_aset (k : κ) (v : ν) : ∀ (l : List (κ × ν)), akeys (aset k v l) = if k ∈ akeys l then akeys l else akeys l ++ [k]
  | [] => by simp [aset, akeys]
  | p :: l => by
    have ih := akeys_aset k v l
    simp only [aset]
    by_cases hp : p.1 = k
    · rw [if_pos hp]
      simp [akeys, hp]
    · rw [if_neg hp]
      unfold akeys at ih ⊢
      simp only [List.map_cons, ih, List.mem_cons]
      by_cases hk : k ∈ l.map (·.1)
      · rw [if_pos hk, if_pos (.inr hk)]
      · rw [if_neg hk, if_neg (by rintro (e | e); exact hp e.symm; exact hk e)]
        rfl
theorem aset_nodup {k : κ} {v : ν} {l : List (κ × ν)} (h : (akeys l).Nodup) : (akeys (aset k v l)).Nodup := by
  rw [akeys_aset]
  split
  · exact h
  · rename_i hk
    rw [List.nodup_append]
    exact ⟨h, by simp, fun a ha b hb => by rw [List.mem_singleton.1 hb]; rintro rfl; exact hk ha⟩
theorem adel_sub (k : κ) : ∀ (l : List (κ × ν)), (adel k l).Sublist l
  | [] => List.Sublist.refl _
  | p :: l => by
    simp only [adel]
    split
    · exact List.sublist_cons_self _ _
    · exact (adel_sub k l).cons_cons _
theorem adel_nodup {k : κ} {l : List (κ × ν)} (h : (akeys l).Nodup) : (akeys (adel k l)).Nodup := h.sublist ((adel_sub k l).map _)
theorem aget_adel {k : κ} (j : κ) : ∀ {l : List (κ × ν)}, (akeys l).Nodup → aget j (adel k l) = if k = j then none else aget j l
  | [], _ => by simp [adel, aget]
  | p :: l, h => by
    unfold akeys at h
    rw [List.map_cons, List.nodup_cons] at h
    simp only [adel]
    by_cases hp : p.1 = k
    · rw [if_pos hp]
      by_cases hk : k = j
      · subst hk
        rw [if_pos rfl]
        exact aget_none_iff.2 (by rw [← hp]; exact h.1)
      · rw [if_neg hk]
        simp only [aget]
        rw [if_neg (fun e => hk (hp.symm.trans e))]
    · rw [if_neg hp]
      simp only [aget]
      rw [aget_adel j h.2]
      by_cases hj : p.1 = j
      · rw [if_pos hj, if_pos hj, if_neg (fun e => hp (hj.trans e.symm))]
      · rw [if_neg hj, if_neg hj]
theorem aset_length_none {k : κ} (v : ν) : ∀ {l : List (κ × ν)}, aget k l = none → (aset k v l).length = l.length + 1
  | [], _ => rfl
  | p :: l, h => by
    simp only [aget] at h
    by_cases hp : p.1 = k
    · rw [if_pos hp] at h; cases h
    · rw [if_neg hp] at h
      simp only [aset, if_neg hp, List.length_cons, aset_length_none v h]
theorem aset_length_some {k : κ} (v : ν) : ∀ {l : List (κ × ν)} {u : ν}, aget k l = some u → (aset k v l).length = l.length
  | [], _, h => by cases h
  | p :: l, u, h => by
    simp only [aget] at h
    by_cases hp : p.1 = k
    · simp only [aset, if_pos hp, List.length_cons]
    · rw [if_neg hp] at h
      simp only [aset, if_neg hp, List.length_cons, aset_length_some v h]
theorem adel_length {k : κ} : ∀ {l : List (κ × ν)} {u : ν}, aget k l = some u → (adel k l).length + 1 = l.length
  | [], _, h => by cases h
  | p :: l, u, h => by
    simp only [aget] at h
    by_cases hp : p.1 = k
    · simp only [adel, if_pos hp, List.length_cons]
    · rw [if_neg hp] at h
      simp only [adel, if_neg hp, List.length_cons, adel_length h]
theorem aidx_iff {k : κ} {l : List (κ × ν)} : aidx k l = none ↔ aget k l = none := by
  constructor
  · exact fun h => (aidx_none h).1
  · intro h
    cases hi : aidx k l with
    | none => rfl
    | some i =>
      obtain ⟨v, _, h2, _⟩ := aidx_some hi
      rw [h] at h2
      cases h2
end

/-! ### keys -/
structure KeyEnc (κ : Type) [DecidableEq κ] where
  enc : κ → Value
  d : TypeDesc
  key : ∀ k, MapKept.IsKey d (enc k)
  same : ∀ a b, Instr.sameNow d (enc a) (enc b) = some (decide (a = b))
  bits : ∀ a, Instr.sameBits 10000 (enc a) (enc a) = true
def keyInt : KeyEnc Int where
  enc := Value.int .i64
  d := .int .i64
  key := fun _ => rfl
  same := fun a b => by
    simp only [Instr.sameNow, if_true, Option.some.injEq]
    rfl
  bits := fun a => by simp [Instr.sameBits]
theorem beq_bytes (a b : ByteArray) : (a == b) = decide (a = b) := by
  rw [Bool.eq_iff_iff, MapKept.bytes_beq, decide_eq_true_eq]
def keyStr : KeyEnc ByteArray where
  enc := Value.string
  d := .string
  key := fun _ => trivial
  same := fun a b => by
    simp only [Instr.sameNow, Option.some.injEq]
    exact beq_bytes a b
  bits := fun a => by
    show (a == a) = true
    exact (MapKept.bytes_beq a a).2 rfl

/-! ### a map's block -/
section
variable {κ ν : Type} [DecidableEq κ] {K : KeyEnc κ} {venc : ν → Value} {P : Program} {w : World} {b : Nat} {m : List (κ × ν)}
def EsIs (K : KeyEnc κ) (venc : ν → Value) (es : List MapEntry) (m : List (κ × ν)) : Prop := es.map (fun e => (e.key, e.val)) = m.map (fun p => (K.enc p.1, venc p.2))
def MapAt (K : KeyEnc κ) (venc : ν → Value) (w : World) (b : Nat) (m : List (κ × ν)) : Prop :=
  ∃ es clock, w.heap[b]? = some (.map es clock) ∧ EsIs K venc es.toList m ∧ (∀ e ∈ es.toList, e.born < clock) ∧ (es.toList.map (·.born)).Nodup
theorem EsIs.len {es : List MapEntry} (h : EsIs K venc es m) : es.length = m.length := by simpa using congrArg List.length h
theorem find_none : ∀ {es : List MapEntry} {m : List (κ × ν)} (k : κ) (i : Nat), EsIs K venc es m → aidx k m = none → Instr.findNow K.d (K.enc k) es i = some none
  | [], [], k, i, _, _ => rfl
  | [], _ :: _, k, i, h, _ => by simp [EsIs] at h
  | _ :: _, [], k, i, h, _ => by simp [EsIs] at h
  | e :: es, p :: m, k, i, h, ha => by
    simp only [EsIs, List.map_cons, List.cons.injEq, Prod.mk.injEq] at h
    unfold aidx at ha
    split at ha
    · cases ha
    · rename_i hp
      unfold Instr.findNow
      rw [h.1.1, K.same, decide_eq_false (fun e => hp e.symm)]
      exact find_none k (i + 1) h.2 (by simpa using ha)
theorem find_some : ∀ {es : List MapEntry} {m : List (κ × ν)} (k : κ) (i j : Nat) (v : ν), EsIs K venc es m → aidx k m = some j → aget k m = some v → Instr.findNow K.d (K.enc k) es i = some (some (i + j, venc v))
  | [], [], k, i, j, v, _, ha, _ => by cases ha
  | [], _ :: _, k, i, j, v, h, _, _ => by simp [EsIs] at h
  | _ :: _, [], k, i, j, v, h, _, _ => by simp [EsIs] at h
  | e :: es, p :: m, k, i, j, v, h, ha, hg => by
    simp only [EsIs, List.map_cons, List.cons.injEq, Prod.mk.injEq] at h
    unfold aidx at ha
    simp only [aget] at hg
    split at ha
    · rename_i hp
      cases ha
      rw [if_pos hp] at hg
      cases hg
      unfold Instr.findNow
      rw [h.1.1, K.same, decide_eq_true hp.symm]
      simp only [h.1.2, Nat.add_zero]
    · rename_i hp
      rw [if_neg hp] at hg
      cases hj : aidx k m with
      | none => rw [hj] at ha; cases ha
      | some j' =>
        rw [hj] at ha
        simp only [Option.map_some, Option.some.injEq] at ha
        subst ha
        unfold Instr.findNow
        rw [h.1.1, K.same, decide_eq_false (fun e => hp e.symm)]
        simp only
        rw [find_some k (i + 1) j' v h.2 hj hg]
        congr 3
        omega
theorem erase_map {α β : Type} (f : α → β) : ∀ (l : List α) (i : Nat), (l.map f).eraseIdx i = (l.eraseIdx i).map f
  | [], i => by simp
  | x :: l, 0 => rfl
  | x :: l, i + 1 => by simp [erase_map f l i]
theorem modify_set {es : Array MapEntry} {j : Nat} (f : MapEntry → MapEntry) (hj : j < es.size) : (es.modify j f).toList = es.toList.set j (f es[j]) := by
  apply List.ext_getElem?
  intro i
  rw [Array.getElem?_toList, Array.getElem?_modify, List.getElem?_set]
  by_cases h : j = i
  · subst h
    simp [hj]
  · rw [if_neg h, if_neg h, Array.getElem?_toList]
theorem MapAt.of_block {w' : World} (h : MapAt K venc w b m) (hb : w'.heap[b]? = w.heap[b]?) : MapAt K venc w' b m := by
  obtain ⟨es, clock, h1, h2⟩ := h
  exact ⟨es, clock, hb.trans h1, h2⟩
theorem MapAt.lt (h : MapAt K venc w b m) : b < w.heap.size := by
  obtain ⟨es, clock, h1, _⟩ := h
  exact (Array.getElem?_eq_some_iff.1 h1).1
theorem MapAt.made (w : World) : MapAt K venc (w.alloc (.map #[] 0)) w.heap.size ([] : List (κ × ν)) := ⟨#[], 0, (MapKept.heap_alloc w _).1, rfl, by simp, by simp⟩
/-- 'm[k]', 'v, ok := m[k]'. -/
theorem MapAt.look {t kt et : TypeId} (h : MapAt K venc w b m) (ht : P.underlying t = some (.map kt et)) (hk : P.underlying kt = some K.d) {z : Value} (hz : (zeroValue et).run P w = .ok z w) (k : κ) (ok : Bool) :
    (Instr.lookup t (.map (some b)) (K.enc k) ok).run P w = .ok (if ok then .tuple #[((aget k m).map venc).getD z, .bool (aget k m).isSome] else ((aget k m).map venc).getD z) w := by
  obtain ⟨es, clock, hb, hes, _⟩ := h
  have hc := MapKept.run_checkKey (P := P) (w := w) hk (K.key k) es.isEmpty 9999
  cases hi : aidx k m with
  | none =>
    have hf := MapKept.run_findKey (P := P) (w := w) hk (find_none k 0 hes hi)
    rw [(aidx_none hi).1]
    cases ok <;> simp [Instr.lookup, run_underlying ht, MapKept.run_getObj_map hb, hc, hf, hz, Result.andThen]
  | some j =>
    obtain ⟨v, h1, h2, _⟩ := aidx_some hi
    have hf := MapKept.run_findKey (P := P) (w := w) hk (find_some k 0 j v hes hi h2)
    rw [h2]
    cases ok <;> simp [Instr.lookup, run_underlying ht, MapKept.run_getObj_map hb, hc, hf, Result.andThen]
/-- Only block b has turned. -/
structure Turned (w w' : World) (b : Nat) : Prop where
  os : w'.os = w.os
  tape : w'.tape = w.tape
  output : w'.output = w.output
  size : w'.heap.size = w.heap.size
  block : ∀ i, i ≠ b → w'.heap[i]? = w.heap[i]?
theorem turned_setBlock {o o' : Obj} (hb : w.heap[b]? = some o) : Turned w (ChangeMaps.setBlock w b o') b :=
  ⟨rfl, rfl, rfl, by simp [ChangeMaps.setBlock], fun i hi => by
    show (w.heap.setIfInBounds b o')[i]? = _
    rw [Array.getElem?_setIfInBounds, if_neg (fun e => hi e.symm)]⟩
theorem heap_setBlock {o o' : Obj} (hb : w.heap[b]? = some o) : (ChangeMaps.setBlock w b o').heap[b]? = some o' := by
  have := (Array.getElem?_eq_some_iff.1 hb).1
  show (w.heap.setIfInBounds b o')[b]? = _
  rw [Array.getElem?_setIfInBounds, if_pos rfl, if_pos this]
/-- 'm[k] = v'. -/
theorem MapAt.put {t kt et : TypeId} (h : MapAt K venc w b m) (ht : P.underlying t = some (.map kt et)) (hk : P.underlying kt = some K.d) (k : κ) (v : ν) :
    ∃ w', (Instr.mapUpdate t (.map (some b)) (K.enc k) (venc v)).run P w = .ok () w' ∧ MapAt K venc w' b (aset k v m) ∧ Turned w w' b := by
  obtain ⟨es, clock, hb, hes, hs1, hs2⟩ := h
  have hc := MapKept.run_checkKey (P := P) (w := w) hk (K.key k) false 9999
  cases hi : aidx k m with
  | none =>
    have hf := MapKept.run_findKey (P := P) (w := w) hk (find_none k 0 hes hi)
    refine ⟨ChangeMaps.setBlock w b (.map (es.push { key := K.enc k, val := venc v, born := clock }) (clock + 1)), ?_, ⟨_, _, heap_setBlock hb, ?_, ?_, ?_⟩, turned_setBlock hb⟩
    · simp [Instr.mapUpdate, run_underlying ht, MapKept.run_getObj_map hb, hc, hf, Result.andThen, MapKept.run_setObj_map _ hb, ChangeMaps.setBlock]
    · rw [(aidx_none hi).2 v]
      unfold EsIs at hes ⊢
      simp [hes]
    · intro e he
      simp only [Array.toList_push, List.mem_append, List.mem_singleton] at he
      rcases he with he | rfl
      · have := hs1 e he; omega
      · exact Nat.lt_succ_self _
    · simp only [Array.toList_push, List.map_append, List.map_cons, List.map_nil]
      rw [List.nodup_append]
      refine ⟨hs2, by simp, fun x hx y hy => ?_⟩
      obtain ⟨e, he, rfl⟩ := List.mem_map.1 hx
      rw [List.mem_singleton.1 hy]
      have := hs1 e he
      omega
  | some j =>
    obtain ⟨u, h1, h2, h3, _⟩ := aidx_some hi
    have hf := MapKept.run_findKey (P := P) (w := w) hk (find_some k 0 j u hes hi h2)
    have hlen := hes.len
    have hj : j < es.size := by
      have := (List.getElem?_eq_some_iff.1 h1).1
      simp only [Array.length_toList] at hlen
      omega
    have hkey : es[j].key = K.enc k := by
      have := congrArg (fun l => l[j]?) hes
      simp only [List.getElem?_map, h1, Option.map_some] at this
      rw [List.getElem?_eq_getElem (by simpa using hj)] at this
      simp only [Option.map_some, Option.some.injEq, Prod.mk.injEq] at this
      simpa using this.1
    refine ⟨ChangeMaps.setBlock w b (.map (es.modify j fun e => { e with key := K.enc k, val := venc v }) clock), ?_, ⟨_, _, heap_setBlock hb, ?_, ?_, ?_⟩, turned_setBlock hb⟩
    · have hst : (Instr.keyThatStays (K.enc k) (K.enc k)).run P w = .ok (K.enc k) w := by simp [Instr.keyThatStays, K.bits]
      simp [Instr.mapUpdate, run_underlying ht, MapKept.run_getObj_map hb, hc, hf, Result.andThen, MapKept.run_setObj_map _ hb, ChangeMaps.setBlock, hj, hkey, hst]
    · rw [h3 v]
      unfold EsIs at hes ⊢
      rw [modify_set _ hj, List.map_set, List.map_set, hes]
    · intro e he
      rw [modify_set _ hj] at he
      rcases List.mem_or_eq_of_mem_set he with he | rfl
      · exact hs1 e he
      · exact hs1 es[j] (by simp)
    · rw [modify_set _ hj, List.map_set]
      have : (es.toList.map (·.born)).set j es[j].born = es.toList.map (·.born) := by
        have hj' : j < (es.toList.map (·.born)).length := by simpa using hj
        have h5 := List.set_getElem_self (as := es.toList.map (·.born)) (i := j) hj'
        simpa using h5
      rw [this]
      exact hs2
/-- 'delete(m, k)'. -/
theorem MapAt.drop {t kt et ty : TypeId} (h : MapAt K venc w b m) (ht : P.underlying t = some (.map kt et)) (hk : P.underlying kt = some K.d) (k : κ) :
    ∃ w', (Builtin.delete_ #[t, kt] ty #[.map (some b), K.enc k]).run P w = .ok (.tuple #[]) w' ∧ MapAt K venc w' b (adel k m) ∧ Turned w w' b := by
  obtain ⟨es, clock, hb, hes, hs1, hs2⟩ := h
  have hc := MapKept.run_checkKey (P := P) (w := w) hk (K.key k) es.isEmpty 9999
  cases hi : aidx k m with
  | none =>
    have hf := MapKept.run_findKey (P := P) (w := w) hk (find_none k 0 hes hi)
    have hd : adel k m = m := by
      have : ∀ (l : List (κ × ν)), aidx k l = none → adel k l = l := by
        intro l
        induction l with
        | nil => intro _; rfl
        | cons p l ih =>
          intro hl
          unfold aidx at hl
          split at hl
          · cases hl
          · rename_i hp
            simp only [adel, if_neg hp, ih (by simpa using hl)]
      exact this m hi
    refine ⟨ChangeMaps.setBlock w b (.map es clock), ?_, ⟨_, _, heap_setBlock hb, by rw [hd]; exact hes, hs1, hs2⟩, turned_setBlock hb⟩
    simp [Builtin.delete_, run_underlying ht, MapKept.run_getObj_map hb, hc, hf, Result.andThen, MapKept.run_setObj_map _ hb, ChangeMaps.setBlock]
  | some j =>
    obtain ⟨u, h1, h2, _, h4⟩ := aidx_some hi
    have hf := MapKept.run_findKey (P := P) (w := w) hk (find_some k 0 j u hes hi h2)
    have hlen := hes.len
    have hj : j < es.size := by
      have := (List.getElem?_eq_some_iff.1 h1).1
      simp only [Array.length_toList] at hlen
      omega
    have he : (es.eraseIdxIfInBounds j).toList = es.toList.eraseIdx j := by
      unfold Array.eraseIdxIfInBounds
      rw [dif_pos hj, Array.toList_eraseIdx]
    refine ⟨ChangeMaps.setBlock w b (.map (es.eraseIdxIfInBounds j) clock), ?_, ⟨_, _, heap_setBlock hb, ?_, ?_, ?_⟩, turned_setBlock hb⟩
    · simp [Builtin.delete_, run_underlying ht, MapKept.run_getObj_map hb, hc, hf, Result.andThen, MapKept.run_setObj_map _ hb, ChangeMaps.setBlock]
    · rw [h4, he]
      unfold EsIs at hes ⊢
      rw [← erase_map, ← erase_map, hes]
    · rw [he]
      exact fun e h => hs1 e (List.mem_of_mem_eraseIdx h)
    · rw [he, ← erase_map]
      exact hs2.sublist (List.eraseIdx_sublist _ _)
section
variable {ops : Array Oper} {rest : List Oper} {o : Oper} {a : Act} {Q : Exit → Act → World → Prop}
/-- 'v := m[k]' at a key that is there, or not: '(at_lookup; refine wpList_look _ rfl .. )'. -/
theorem wpList_look (w : World) (hg : o.guard = none) (mo x : Operand) (t : TypeId) (ok : Bool) (hop : o.op = Op.lookup t mo x ok) (kt et : TypeId) (ht : P.underlying t = some (.map kt et)) (hk : P.underlying kt = some K.d) {z : Value} (hz : (zeroValue et).run P w = .ok z w)
    (hm : a.eval mo = .map (some b)) (hown : MapAt K venc w b m) (k : κ) (hx : a.eval x = K.enc k) (val : Value) (hv : ((aget k m).map venc).getD z = val) (f : Bool) (hf : (aget k m).isSome = f)
    (hK : wpList P ops Q rest (a.put o.dst (if ok then .tuple #[val, .bool f] else val)) w) : wpList P ops Q (o :: rest) a w := by
  refine wpList_plain hg fun K' hK' => ?_
  have hrun := hown.look ht hk hz k ok
  rw [hv, hf] at hrun
  unfold Oper.wp
  simp [execOp, hop, hm, hx, hrun, Result.andThen]
  exact hK' _ _ hK
/-- 'm[k] = v'. -/
theorem wpList_put (w : World) (hg : o.guard = none) (mo x y : Operand) (t : TypeId) (hop : o.op = Op.mapUpdate t mo x y) (kt et : TypeId) (ht : P.underlying t = some (.map kt et)) (hk : P.underlying kt = some K.d)
    (hm : a.eval mo = .map (some b)) (hown : MapAt K venc w b m) (k : κ) (hx : a.eval x = K.enc k) (v : ν) (hy : a.eval y = venc v)
    (hK : ∀ w', MapAt K venc w' b (aset k v m) → Turned w w' b → wpList P ops Q rest (a.put o.dst undef) w') : wpList P ops Q (o :: rest) a w := by
  refine wpList_plain hg fun K' hK' => ?_
  obtain ⟨w', hrun, r1, r2⟩ := hown.put ht hk k v
  unfold Oper.wp
  simp [execOp, hop, hm, hx, hy, hrun, Result.andThen]
  exact hK' _ _ (hK w' r1 r2)
/-- 'delete(m, k)'. -/
theorem wpList_drop (w : World) (hg : o.guard = none) (mo x : Operand) (t kt : TypeId) (hop : o.op = Op.call { callee := Callee.builtin Builtin.delete, args := #[mo, x], argTypes := #[t, kt] }) (et : TypeId) (ht : P.underlying t = some (.map kt et)) (hk : P.underlying kt = some K.d)
    (hm : a.eval mo = .map (some b)) (hown : MapAt K venc w b m) (k : κ) (hx : a.eval x = K.enc k)
    (hK : ∀ w', MapAt K venc w' b (adel k m) → Turned w w' b → wpList P ops Q rest (a.put o.dst (.tuple #[])) w') : wpList P ops Q (o :: rest) a w := by
  refine wpList_plain hg fun K' hK' => ?_
  obtain ⟨w', hrun, r1, r2⟩ := hown.drop (ty := o.type) ht hk k
  unfold Oper.wp
  simp [execOp, hop, resolve, invoke, builtin, hm, hx, hrun, Result.andThen]
  exact hK' _ _ (hK w' r1 r2)
end
theorem MapAt.len {t : TypeId} {kt et : TypeId} (h : MapAt K venc w b m) (ht : P.underlying t = some (.map kt et)) (ty : TypeId) : (Builtin.len_ #[t] ty #[.map (some b)]).run P w = .ok (.int .i64 m.length) w := by
  obtain ⟨es, clock, hb, hes, _⟩ := h
  have := hes.len
  simp only [Array.length_toList] at this
  rw [← this]
  simp [Builtin.len_, run_underlying ht, MapKept.run_getObj_map hb, Result.andThen, goInt]
end
end Go.Proofs.YtphbbcjmnlamaaaGreatV
