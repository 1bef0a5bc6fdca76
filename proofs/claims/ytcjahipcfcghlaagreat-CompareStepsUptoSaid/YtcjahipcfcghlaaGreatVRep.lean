/- vfs, pack, compare: contracts of the functions (texts VMap, VSpec, VRep, MERGED). -/
import Derived.Maps.Own
import Derived.Maps.OwnOps
import Derived.Maps.OwnSet
import Derived.WalkKit
import Derived.OwnWalk
import Derived.MapKept
import Derived.Laws.OwnMore
import Derived.Lib.IndexAny
import Derived.Lib.Bytealg
import Derived.Below
import Derived.Maps.AppendAt
import Derived.Deep.QuietTactic
/- Words of our own: a map's block as a list of pairs in the order in which its keys came; the laws at the operations. -/
namespace Go.Proofs.YtcjahipcfcghlaaGreatV
open Go.RowKit
set_option linter.unusedVariables false
set_option linter.unusedSimpArgs false

/-! ### lists of pairs -/
section
variable {κ ν : Type} [DecidableEq κ]
def aget (k : κ) : List (κ × ν) → Option ν
  | [] => none
  | p :: l => if p.1 = k then some p.2 else aget k l
def aset (k : κ) (v : ν) : List (κ × ν) → List (κ × ν)
  | [] => [(k, v)]
  | p :: l => if p.1 = k then (k, v) :: l else p :: aset k v l
def adel (k : κ) : List (κ × ν) → List (κ × ν)
  | [] => []
  | p :: l => if p.1 = k then l else p :: adel k l
def aidx (k : κ) : List (κ × ν) → Option Nat
  | [] => none
  | p :: l => if p.1 = k then some 0 else (aidx k l).map (· + 1)
def akeys (l : List (κ × ν)) : List κ := l.map (·.1)
theorem aidx_none {k : κ} : ∀ {l : List (κ × ν)}, aidx k l = none → aget k l = none ∧ ∀ v, aset k v l = l ++ [(k, v)]
  | [], _ => ⟨rfl, fun _ => rfl⟩
  | p :: l, h => by
    unfold aidx at h
    split at h
    · cases h
    · rename_i hp
      have := aidx_none (l := l) (by simpa using h)
      simp only [aget, aset, if_neg hp, this.1, this.2, List.cons_append, true_and, implies_true]
theorem aidx_some {k : κ} : ∀ {l : List (κ × ν)} {i : Nat}, aidx k l = some i → ∃ v, l[i]? = some (k, v) ∧ aget k l = some v ∧ (∀ u, aset k u l = l.set i (k, u)) ∧ adel k l = l.eraseIdx i
  | [], i, h => by cases h
  | p :: l, i, h => by
    unfold aidx at h
    split at h
    · rename_i hp
      cases h
      refine ⟨p.2, by rw [← hp]; rfl, by simp only [aget, if_pos hp], fun u => by simp only [aset, if_pos hp, List.set_cons_zero], by simp only [adel, if_pos hp, List.eraseIdx_cons_zero]⟩
    · rename_i hp
      cases hj : aidx k l with
      | none => rw [hj] at h; cases h
      | some j =>
        rw [hj] at h
        simp only [Option.map_some, Option.some.injEq] at h
        subst h
        obtain ⟨v, h1, h2, h3, h4⟩ := aidx_some hj
        exact ⟨v, by simpa using h1, by simp only [aget, if_neg hp, h2], fun u => by simp only [aset, if_neg hp, h3, List.set_cons_succ], by simp only [adel, if_neg hp, h4, List.eraseIdx_cons_succ]⟩
theorem aget_none_iff {k : κ} : ∀ {l : List (κ × ν)}, aget k l = none ↔ k ∉ akeys l
  | [] => by simp [aget, akeys]
  | p :: l => by
    have := aget_none_iff (k := k) (l := l)
    unfold akeys at this ⊢
    simp only [aget, List.map_cons, List.mem_cons, not_or]
    by_cases hp : p.1 = k
    · simp [hp]
    · rw [if_neg hp, this]
      exact ⟨fun h => ⟨fun e => hp e.symm, h⟩, fun h => h.2⟩
theorem aget_mem {k : κ} {v : ν} : ∀ {l : List (κ × ν)}, aget k l = some v → (k, v) ∈ l
  | [], h => by cases h
  | p :: l, h => by
    simp only [aget] at h
    split at h
    · rename_i hp
      cases h
      rw [← hp]; simp
    · exact List.mem_cons_of_mem _ (aget_mem h)
theorem aget_of_mem {k : κ} {v : ν} : ∀ {l : List (κ × ν)}, (akeys l).Nodup → (k, v) ∈ l → aget k l = some v
  | [], _, h => by cases h
  | p :: l, hn, h => by
    unfold akeys at hn
    rw [List.map_cons, List.nodup_cons] at hn
    simp only [aget]
    rcases List.mem_cons.1 h with rfl | h
    · simp
    · rw [if_neg (fun e => hn.1 (by rw [e]; exact List.mem_map.2 ⟨_, h, rfl⟩))]
      exact aget_of_mem hn.2 h
theorem aget_aset (k j : κ) (v : ν) : ∀ (l : List (κ × ν)), aget j (aset k v l) = if k = j then some v else aget j l
  | [] => by simp [aset, aget]
  | p :: l => by
    simp only [aset]
    by_cases hp : p.1 = k
    · rw [if_pos hp]
      simp only [aget]
      by_cases hk : k = j
      · simp [hk]
      · rw [if_neg hk, if_neg hk, if_neg (fun e => hk (hp.symm.trans e))]
    · rw [if_neg hp]
      simp only [aget, aget_aset k j v l]
      by_cases hj : p.1 = j
      · rw [if_pos hj, if_pos hj, if_neg (fun e => hp (hj.trans e.symm))]
      · rw [if_neg hj, if_neg hj]
theorem akeys_aset (k : κ) (v : ν) : ∀ (l : List (κ × ν)), akeys (aset k v l) = if k ∈ akeys l then akeys l else akeys l ++ [k]
  | [] => by simp [aset, akeys]
  | p :: l => by
    have ih := akeys_aset k v l
    simp only [aset]
    by_cases hp : p.1 = k
    · rw [if_pos hp]
      simp [akeys, hp]
    · rw [if_neg hp]
      unfold akeys at ih ⊢
      simp only [List.map_cons, ih, List.mem_cons]
      by_cases hk : k ∈ l.map (·.1)
      · rw [if_pos hk, if_pos (.inr hk)]
      · rw [if_neg hk, if_neg (by rintro (e | e); exact hp e.symm; exact hk e)]
        rfl
theorem aset_nodup {k : κ} {v : ν} {l : List (κ × ν)} (h : (akeys l).Nodup) : (akeys (aset k v l)).Nodup := by
  rw [akeys_aset]
  split
  · exact h
  · rename_i hk
    rw [List.nodup_append]
    exact ⟨h, by simp, fun a ha b hb => by rw [List.mem_singleton.1 hb]; rintro rfl; exact hk ha⟩
theorem adel_sub (k : κ) : ∀ (l : List (κ × ν)), (adel k l).Sublist l
  | [] => List.Sublist.refl _
  | p :: l => by
    simp only [adel]
    split
    · exact List.sublist_cons_self _ _
    · exact (adel_sub k l).cons_cons _
theorem adel_nodup {k : κ} {l : List (κ × ν)} (h : (akeys l).Nodup) : (akeys (adel k l)).Nodup := h.sublist ((adel_sub k l).map _)
theorem aget_adel {k : κ} (j : κ) : ∀ {l : List (κ × ν)}, (akeys l).Nodup → aget j (adel k l) = if k = j then none else aget j l
  | [], _ => by simp [adel, aget]
  | p :: l, h => by
    unfold akeys at h
    rw [List.map_cons, List.nodup_cons] at h
    simp only [adel]
    by_cases hp : p.1 = k
    · rw [if_pos hp]
      by_cases hk : k = j
      · subst hk
        rw [if_pos rfl]
        exact aget_none_iff.2 (by rw [← hp]; exact h.1)
      · rw [if_neg hk]
        simp only [aget]
        rw [if_neg (fun e => hk (hp.symm.trans e))]
    · rw [if_neg hp]
      simp only [aget]
      rw [aget_adel j h.2]
      by_cases hj : p.1 = j
      · rw [if_pos hj, if_pos hj, if_neg (fun e => hp (hj.trans e.symm))]
      · rw [if_neg hj, if_neg hj]
theorem aset_length_none {k : κ} (v : ν) : ∀ {l : List (κ × ν)}, aget k l = none → (aset k v l).length = l.length + 1
  | [], _ => rfl
  | p :: l, h => by
    simp only [aget] at h
    by_cases hp : p.1 = k
    · rw [if_pos hp] at h; cases h
    · rw [if_neg hp] at h
      simp only [aset, if_neg hp, List.length_cons, aset_length_none v h]
theorem aset_length_some {k : κ} (v : ν) : ∀ {l : List (κ × ν)} {u : ν}, aget k l = some u → (aset k v l).length = l.length
  | [], _, h => by cases h
  | p :: l, u, h => by
    simp only [aget] at h
    by_cases hp : p.1 = k
    · simp only [aset, if_pos hp, List.length_cons]
    · rw [if_neg hp] at h
      simp only [aset, if_neg hp, List.length_cons, aset_length_some v h]
theorem adel_length {k : κ} : ∀ {l : List (κ × ν)} {u : ν}, aget k l = some u → (adel k l).length + 1 = l.length
  | [], _, h => by cases h
  | p :: l, u, h => by
    simp only [aget] at h
    by_cases hp : p.1 = k
    · simp only [adel, if_pos hp, List.length_cons]
    · rw [if_neg hp] at h
      simp only [adel, if_neg hp, List.length_cons, adel_length h]
theorem aidx_iff {k : κ} {l : List (κ × ν)} : aidx k l = none ↔ aget k l = none := by
  constructor
  · exact fun h => (aidx_none h).1
  · intro h
    cases hi : aidx k l with
    | none => rfl
    | some i =>
      obtain ⟨v, _, h2, _⟩ := aidx_some hi
      rw [h] at h2
      cases h2
end

/-! ### keys -/
structure KeyEnc (κ : Type) [DecidableEq κ] where
  enc : κ → Value
  d : TypeDesc
  key : ∀ k, MapKept.IsKey d (enc k)
  same : ∀ a b, Instr.sameNow d (enc a) (enc b) = some (decide (a = b))
  bits : ∀ a, Instr.sameBits 10000 (enc a) (enc a) = true
def keyInt : KeyEnc Int where
  enc := Value.int .i64
  d := .int .i64
  key := fun _ => rfl
  same := fun a b => by
    simp only [Instr.sameNow, if_true, Option.some.injEq]
    rfl
  bits := fun a => by simp [Instr.sameBits]
theorem beq_bytes (a b : ByteArray) : (a == b) = decide (a = b) := by
  rw [Bool.eq_iff_iff, MapKept.bytes_beq, decide_eq_true_eq]
def keyStr : KeyEnc ByteArray where
  enc := Value.string
  d := .string
  key := fun _ => trivial
  same := fun a b => by
    simp only [Instr.sameNow, Option.some.injEq]
    exact beq_bytes a b
  bits := fun a => by
    show (a == a) = true
    exact (MapKept.bytes_beq a a).2 rfl

/-! ### a map's block -/
section
variable {κ ν : Type} [DecidableEq κ] {K : KeyEnc κ} {venc : ν → Value} {P : Program} {w : World} {b : Nat} {m : List (κ × ν)}
def EsIs (K : KeyEnc κ) (venc : ν → Value) (es : List MapEntry) (m : List (κ × ν)) : Prop := es.map (fun e => (e.key, e.val)) = m.map (fun p => (K.enc p.1, venc p.2))
def MapAt (K : KeyEnc κ) (venc : ν → Value) (w : World) (b : Nat) (m : List (κ × ν)) : Prop :=
  ∃ es clock, w.heap[b]? = some (.map es clock) ∧ EsIs K venc es.toList m ∧ (∀ e ∈ es.toList, e.born < clock) ∧ (es.toList.map (·.born)).Nodup
theorem EsIs.len {es : List MapEntry} (h : EsIs K venc es m) : es.length = m.length := by simpa using congrArg List.length h
theorem find_none : ∀ {es : List MapEntry} {m : List (κ × ν)} (k : κ) (i : Nat), EsIs K venc es m → aidx k m = none → Instr.findNow K.d (K.enc k) es i = some none
  | [], [], k, i, _, _ => rfl
  | [], _ :: _, k, i, h, _ => by simp [EsIs] at h
  | _ :: _, [], k, i, h, _ => by simp [EsIs] at h
  | e :: es, p :: m, k, i, h, ha => by
    simp only [EsIs, List.map_cons, List.cons.injEq, Prod.mk.injEq] at h
    unfold aidx at ha
    split at ha
    · cases ha
    · rename_i hp
      unfold Instr.findNow
      rw [h.1.1, K.same, decide_eq_false (fun e => hp e.symm)]
      exact find_none k (i + 1) h.2 (by simpa using ha)
theorem find_some : ∀ {es : List MapEntry} {m : List (κ × ν)} (k : κ) (i j : Nat) (v : ν), EsIs K venc es m → aidx k m = some j → aget k m = some v → Instr.findNow K.d (K.enc k) es i = some (some (i + j, venc v))
  | [], [], k, i, j, v, _, ha, _ => by cases ha
  | [], _ :: _, k, i, j, v, h, _, _ => by simp [EsIs] at h
  | _ :: _, [], k, i, j, v, h, _, _ => by simp [EsIs] at h
  | e :: es, p :: m, k, i, j, v, h, ha, hg => by
    simp only [EsIs, List.map_cons, List.cons.injEq, Prod.mk.injEq] at h
    unfold aidx at ha
    simp only [aget] at hg
    split at ha
    · rename_i hp
      cases ha
      rw [if_pos hp] at hg
      cases hg
      unfold Instr.findNow
      rw [h.1.1, K.same, decide_eq_true hp.symm]
      simp only [h.1.2, Nat.add_zero]
    · rename_i hp
      rw [if_neg hp] at hg
      cases hj : aidx k m with
      | none => rw [hj] at ha; cases ha
      | some j' =>
        rw [hj] at ha
        simp only [Option.map_some, Option.some.injEq] at ha
        subst ha
        unfold Instr.findNow
        rw [h.1.1, K.same, decide_eq_false (fun e => hp e.symm)]
        simp only
        rw [find_some k (i + 1) j' v h.2 hj hg]
        congr 3
        omega
theorem erase_map {α β : Type} (f : α → β) : ∀ (l : List α) (i : Nat), (l.map f).eraseIdx i = (l.eraseIdx i).map f
  | [], i => by simp
  | x :: l, 0 => rfl
  | x :: l, i + 1 => by simp [erase_map f l i]
theorem modify_set {es : Array MapEntry} {j : Nat} (f : MapEntry → MapEntry) (hj : j < es.size) : (es.modify j f).toList = es.toList.set j (f es[j]) := by
  apply List.ext_getElem?
  intro i
  rw [Array.getElem?_toList, Array.getElem?_modify, List.getElem?_set]
  by_cases h : j = i
  · subst h
    simp [hj]
  · rw [if_neg h, if_neg h, Array.getElem?_toList]
theorem MapAt.of_block {w' : World} (h : MapAt K venc w b m) (hb : w'.heap[b]? = w.heap[b]?) : MapAt K venc w' b m := by
  obtain ⟨es, clock, h1, h2⟩ := h
  exact ⟨es, clock, hb.trans h1, h2⟩
theorem MapAt.lt (h : MapAt K venc w b m) : b < w.heap.size := by
  obtain ⟨es, clock, h1, _⟩ := h
  exact (Array.getElem?_eq_some_iff.1 h1).1
theorem MapAt.made (w : World) : MapAt K venc (w.alloc (.map #[] 0)) w.heap.size ([] : List (κ × ν)) := ⟨#[], 0, (MapKept.heap_alloc w _).1, rfl, by simp, by simp⟩
/-- 'm[k]', 'v, ok := m[k]'. -/
theorem MapAt.look {t kt et : TypeId} (h : MapAt K venc w b m) (ht : P.underlying t = some (.map kt et)) (hk : P.underlying kt = some K.d) {z : Value} (hz : (zeroValue et).run P w = .ok z w) (k : κ) (ok : Bool) :
    (Instr.lookup t (.map (some b)) (K.enc k) ok).run P w = .ok (if ok then .tuple #[((aget k m).map venc).getD z, .bool (aget k m).isSome] else ((aget k m).map venc).getD z) w := by
  obtain ⟨es, clock, hb, hes, _⟩ := h
  have hc := MapKept.run_checkKey (P := P) (w := w) hk (K.key k) es.isEmpty 9999
  cases hi : aidx k m with
  | none =>
    have hf := MapKept.run_findKey (P := P) (w := w) hk (find_none k 0 hes hi)
    rw [(aidx_none hi).1]
    cases ok <;> simp [Instr.lookup, run_underlying ht, MapKept.run_getObj_map hb, hc, hf, hz, Result.andThen]
  | some j =>
    obtain ⟨v, h1, h2, _⟩ := aidx_some hi
    have hf := MapKept.run_findKey (P := P) (w := w) hk (find_some k 0 j v hes hi h2)
    rw [h2]
    cases ok <;> simp [Instr.lookup, run_underlying ht, MapKept.run_getObj_map hb, hc, hf, Result.andThen]
/-- Only block b has turned. -/
structure Turned (w w' : World) (b : Nat) : Prop where
  os : w'.os = w.os
  tape : w'.tape = w.tape
  output : w'.output = w.output
  size : w'.heap.size = w.heap.size
  block : ∀ i, i ≠ b → w'.heap[i]? = w.heap[i]?
theorem turned_setBlock {o o' : Obj} (hb : w.heap[b]? = some o) : Turned w (ChangeMaps.setBlock w b o') b :=
  ⟨rfl, rfl, rfl, by simp [ChangeMaps.setBlock], fun i hi => by
    show (w.heap.setIfInBounds b o')[i]? = _
    rw [Array.getElem?_setIfInBounds, if_neg (fun e => hi e.symm)]⟩
theorem heap_setBlock {o o' : Obj} (hb : w.heap[b]? = some o) : (ChangeMaps.setBlock w b o').heap[b]? = some o' := by
  have := (Array.getElem?_eq_some_iff.1 hb).1
  show (w.heap.setIfInBounds b o')[b]? = _
  rw [Array.getElem?_setIfInBounds, if_pos rfl, if_pos this]
/-- 'm[k] = v'. -/
theorem MapAt.put {t kt et : TypeId} (h : MapAt K venc w b m) (ht : P.underlying t = some (.map kt et)) (hk : P.underlying kt = some K.d) (k : κ) (v : ν) :
    ∃ w', (Instr.mapUpdate t (.map (some b)) (K.enc k) (venc v)).run P w = .ok () w' ∧ MapAt K venc w' b (aset k v m) ∧ Turned w w' b := by
  obtain ⟨es, clock, hb, hes, hs1, hs2⟩ := h
  have hc := MapKept.run_checkKey (P := P) (w := w) hk (K.key k) false 9999
  cases hi : aidx k m with
  | none =>
    have hf := MapKept.run_findKey (P := P) (w := w) hk (find_none k 0 hes hi)
    refine ⟨ChangeMaps.setBlock w b (.map (es.push { key := K.enc k, val := venc v, born := clock }) (clock + 1)), ?_, ⟨_, _, heap_setBlock hb, ?_, ?_, ?_⟩, turned_setBlock hb⟩
    · simp [Instr.mapUpdate, run_underlying ht, MapKept.run_getObj_map hb, hc, hf, Result.andThen, MapKept.run_setObj_map _ hb, ChangeMaps.setBlock]
    · rw [(aidx_none hi).2 v]
      unfold EsIs at hes ⊢
      simp [hes]
    · intro e he
      simp only [Array.toList_push, List.mem_append, List.mem_singleton] at he
      rcases he with he | rfl
      · have := hs1 e he; omega
      · exact Nat.lt_succ_self _
    · simp only [Array.toList_push, List.map_append, List.map_cons, List.map_nil]
      rw [List.nodup_append]
      refine ⟨hs2, by simp, fun x hx y hy => ?_⟩
      obtain ⟨e, he, rfl⟩ := List.mem_map.1 hx
      rw [List.mem_singleton.1 hy]
      have := hs1 e he
      omega
  | some j =>
    obtain ⟨u, h1, h2, h3, _⟩ := aidx_some hi
    have hf := MapKept.run_findKey (P := P) (w := w) hk (find_some k 0 j u hes hi h2)
    have hlen := hes.len
    have hj : j < es.size := by
      have := (List.getElem?_eq_some_iff.1 h1).1
      simp only [Array.length_toList] at hlen
      omega
    have hkey : es[j].key = K.enc k := by
      have := congrArg (fun l => l[j]?) hes
      simp only [List.getElem?_map, h1, Option.map_some] at this
      rw [List.getElem?_eq_getElem (by simpa using hj)] at this
      simp only [Option.map_some, Option.some.injEq, Prod.mk.injEq] at this
      simpa using this.1
    refine ⟨ChangeMaps.setBlock w b (.map (es.modify j fun e => { e with key := K.enc k, val := venc v }) clock), ?_, ⟨_, _, heap_setBlock hb, ?_, ?_, ?_⟩, turned_setBlock hb⟩
    · have hst : (Instr.keyThatStays (K.enc k) (K.enc k)).run P w = .ok (K.enc k) w := by simp [Instr.keyThatStays, K.bits]
      simp [Instr.mapUpdate, run_underlying ht, MapKept.run_getObj_map hb, hc, hf, Result.andThen, MapKept.run_setObj_map _ hb, ChangeMaps.setBlock, hj, hkey, hst]
    · rw [h3 v]
      unfold EsIs at hes ⊢
      rw [modify_set _ hj, List.map_set, List.map_set, hes]
    · intro e he
      rw [modify_set _ hj] at he
      rcases List.mem_or_eq_of_mem_set he with he | rfl
      · exact hs1 e he
      · exact hs1 es[j] (by simp)
    · rw [modify_set _ hj, List.map_set]
      have : (es.toList.map (·.born)).set j es[j].born = es.toList.map (·.born) := by
        have hj' : j < (es.toList.map (·.born)).length := by simpa using hj
        have h5 := List.set_getElem_self (as := es.toList.map (·.born)) (i := j) hj'
        simpa using h5
      rw [this]
      exact hs2
/-- 'delete(m, k)'. -/
theorem MapAt.drop {t kt et ty : TypeId} (h : MapAt K venc w b m) (ht : P.underlying t = some (.map kt et)) (hk : P.underlying kt = some K.d) (k : κ) :
    ∃ w', (Builtin.delete_ #[t, kt] ty #[.map (some b), K.enc k]).run P w = .ok (.tuple #[]) w' ∧ MapAt K venc w' b (adel k m) ∧ Turned w w' b := by
  obtain ⟨es, clock, hb, hes, hs1, hs2⟩ := h
  have hc := MapKept.run_checkKey (P := P) (w := w) hk (K.key k) es.isEmpty 9999
  cases hi : aidx k m with
  | none =>
    have hf := MapKept.run_findKey (P := P) (w := w) hk (find_none k 0 hes hi)
    have hd : adel k m = m := by
      have : ∀ (l : List (κ × ν)), aidx k l = none → adel k l = l := by
        intro l
        induction l with
        | nil => intro _; rfl
        | cons p l ih =>
          intro hl
          unfold aidx at hl
          split at hl
          · cases hl
          · rename_i hp
            simp only [adel, if_neg hp, ih (by simpa using hl)]
      exact this m hi
    refine ⟨ChangeMaps.setBlock w b (.map es clock), ?_, ⟨_, _, heap_setBlock hb, by rw [hd]; exact hes, hs1, hs2⟩, turned_setBlock hb⟩
    simp [Builtin.delete_, run_underlying ht, MapKept.run_getObj_map hb, hc, hf, Result.andThen, MapKept.run_setObj_map _ hb, ChangeMaps.setBlock]
  | some j =>
    obtain ⟨u, h1, h2, _, h4⟩ := aidx_some hi
    have hf := MapKept.run_findKey (P := P) (w := w) hk (find_some k 0 j u hes hi h2)
    have hlen := hes.len
    have hj : j < es.size := by
      have := (List.getElem?_eq_some_iff.1 h1).1
      simp only [Array.length_toList] at hlen
      omega
    have he : (es.eraseIdxIfInBounds j).toList = es.toList.eraseIdx j := by
      unfold Array.eraseIdxIfInBounds
      rw [dif_pos hj, Array.toList_eraseIdx]
    refine ⟨ChangeMaps.setBlock w b (.map (es.eraseIdxIfInBounds j) clock), ?_, ⟨_, _, heap_setBlock hb, ?_, ?_, ?_⟩, turned_setBlock hb⟩
    · simp [Builtin.delete_, run_underlying ht, MapKept.run_getObj_map hb, hc, hf, Result.andThen, MapKept.run_setObj_map _ hb, ChangeMaps.setBlock]
    · rw [h4, he]
      unfold EsIs at hes ⊢
      rw [← erase_map, ← erase_map, hes]
    · rw [he]
      exact fun e h => hs1 e (List.mem_of_mem_eraseIdx h)
    · rw [he, ← erase_map]
      exact hs2.sublist (List.eraseIdx_sublist _ _)
section
variable {ops : Array Oper} {rest : List Oper} {o : Oper} {a : Act} {Q : Exit → Act → World → Prop}
/-- 'v := m[k]' at a key that is there, or not: '(at_lookup; refine wpList_look _ rfl .. )'. -/
theorem wpList_look (w : World) (hg : o.guard = none) (mo x : Operand) (t : TypeId) (ok : Bool) (hop : o.op = Op.lookup t mo x ok) (kt et : TypeId) (ht : P.underlying t = some (.map kt et)) (hk : P.underlying kt = some K.d) {z : Value} (hz : (zeroValue et).run P w = .ok z w)
    (hm : a.eval mo = .map (some b)) (hown : MapAt K venc w b m) (k : κ) (hx : a.eval x = K.enc k) (val : Value) (hv : ((aget k m).map venc).getD z = val) (f : Bool) (hf : (aget k m).isSome = f)
    (hK : wpList P ops Q rest (a.put o.dst (if ok then .tuple #[val, .bool f] else val)) w) : wpList P ops Q (o :: rest) a w := by
  refine wpList_plain hg fun K' hK' => ?_
  have hrun := hown.look ht hk hz k ok
  rw [hv, hf] at hrun
  unfold Oper.wp
  simp [execOp, hop, hm, hx, hrun, Result.andThen]
  exact hK' _ _ hK
/-- 'm[k] = v'. -/
theorem wpList_put (w : World) (hg : o.guard = none) (mo x y : Operand) (t : TypeId) (hop : o.op = Op.mapUpdate t mo x y) (kt et : TypeId) (ht : P.underlying t = some (.map kt et)) (hk : P.underlying kt = some K.d)
    (hm : a.eval mo = .map (some b)) (hown : MapAt K venc w b m) (k : κ) (hx : a.eval x = K.enc k) (v : ν) (hy : a.eval y = venc v)
    (hK : ∀ w', MapAt K venc w' b (aset k v m) → Turned w w' b → wpList P ops Q rest (a.put o.dst undef) w') : wpList P ops Q (o :: rest) a w := by
  refine wpList_plain hg fun K' hK' => ?_
  obtain ⟨w', hrun, r1, r2⟩ := hown.put ht hk k v
  unfold Oper.wp
  simp [execOp, hop, hm, hx, hy, hrun, Result.andThen]
  exact hK' _ _ (hK w' r1 r2)
/-- 'delete(m, k)'. -/
theorem wpList_drop (w : World) (hg : o.guard = none) (mo x : Operand) (t kt : TypeId) (hop : o.op = Op.call { callee := Callee.builtin Builtin.delete, args := #[mo, x], argTypes := #[t, kt] }) (et : TypeId) (ht : P.underlying t = some (.map kt et)) (hk : P.underlying kt = some K.d)
    (hm : a.eval mo = .map (some b)) (hown : MapAt K venc w b m) (k : κ) (hx : a.eval x = K.enc k)
    (hK : ∀ w', MapAt K venc w' b (adel k m) → Turned w w' b → wpList P ops Q rest (a.put o.dst (.tuple #[])) w') : wpList P ops Q (o :: rest) a w := by
  refine wpList_plain hg fun K' hK' => ?_
  obtain ⟨w', hrun, r1, r2⟩ := hown.drop (ty := o.type) ht hk k
  unfold Oper.wp
  simp [execOp, hop, resolve, invoke, builtin, hm, hx, hrun, Result.andThen]
  exact hK' _ _ (hK w' r1 r2)
end
theorem MapAt.len {t : TypeId} {kt et : TypeId} (h : MapAt K venc w b m) (ht : P.underlying t = some (.map kt et)) (ty : TypeId) : (Builtin.len_ #[t] ty #[.map (some b)]).run P w = .ok (.int .i64 m.length) w := by
  obtain ⟨es, clock, hb, hes, _⟩ := h
  have := hes.len
  simp only [Array.length_toList] at this
  rw [← this]
  simp [Builtin.len_, run_underlying ht, MapKept.run_getObj_map hb, Result.andThen, goInt]
end
end Go.Proofs.YtcjahipcfcghlaaGreatV

/- The file system as a plain state: what vfs's calls answer and make of it. No program in sight. -/
namespace Go.Proofs.YtcjahipcfcghlaaGreatV
set_option linter.unusedVariables false

structure Mt where
  mode : Int
  uid : Int
  gid : Int
  time : Int
  nano : Int
  deriving DecidableEq
structure Ino where
  kind : Int
  mt : Mt
  data : List Int
  target : ByteArray
  ents : List (ByteArray × Int)
  links : Int
  up : Int
structure Act8 where
  op : Int
  dir : Int
  name : ByteArray
  node : Int
  to : Int
  other : ByteArray
  at_ : Int
  n : Int
structure FSt where
  nodes : Int
  bytes : Int
  next : Int
  used : Int
  inodes : List (Int × Ino)
  trace : List Act8

def noName : ByteArray := ⟨#[]⟩
def isNameS (s : ByteArray) : Bool := decide (1 ≤ s.size) && decide (s.size ≤ 255) && (!(decide (s.data.toList = [46]))) && (!(decide (s.data.toList = [46, 46]))) && (!(Lib.containsAny s.data.toList [47, 0]))
def isTargetS (s : ByteArray) : Bool := decide (1 ≤ s.size) && decide (s.size ≤ 4096) && decide (Lib.indexByte s.data.toList 0 < 0)
def isMetaS (m : Mt) : Bool := decide (m.mode ≤ 4095) && decide (0 ≤ m.nano) && decide (m.nano ≤ 999999999)
/-- ErrNode where one of some numbers is of no inode. -/
def thereS (S : FSt) : List Int → Int
  | [] => 0
  | n :: l => if (aget n S.inodes).isSome then thereS S l else 100
def dirsOnly (S : FSt) : List Int → Int
  | [] => 0
  | n :: l => match aget n S.inodes with
    | some i => if i.kind = 1 then dirsOnly S l else 101
    | none => 101
def dirsS (S : FSt) (l : List Int) : Int := if thereS S l = 0 then dirsOnly S l else thereS S l
def atS (S : FSt) (dir : Int) (name : ByteArray) : Int := if dirsS S [dir] = 0 then (if isNameS name = true then 0 else 102) else dirsS S [dir]
def entsS (S : FSt) (dir : Int) : List (ByteArray × Int) := match aget dir S.inodes with | some i => i.ents | none => []
def lookupS (S : FSt) (dir : Int) (name : ByteArray) : Int × Int :=
  if atS S dir name = 0 then (match aget name (entsS S dir) with | some n => (n, 0) | none => (0, 103)) else (0, atS S dir name)
def upS (S : FSt) (dir : Int) : Int × Int := if dirsS S [dir] = 0 then (match aget dir S.inodes with | some i => (i.up, 0) | none => (0, 100)) else (0, dirsS S [dir])
structure StatS where
  node : Int
  kind : Int
  mt : Mt
  links : Int
  size : Int
def zeroMt : Mt := ⟨0, 0, 0, 0, 0⟩
def statS (S : FSt) (node : Int) : StatS × Int := match aget node S.inodes with
  | some i => (⟨node, i.kind, i.mt, i.links, i.data.length + i.ents.length + i.target.size⟩, 0)
  | none => (⟨0, 0, zeroMt, 0, 0⟩, 100)
def doneS (S : FSt) (a : Act8) : FSt := { S with trace := S.trace ++ [a] }
def setIno (S : FSt) (n : Int) (i : Ino) : FSt := { S with inodes := aset n i S.inodes }
def linkEnt (S : FSt) (dir : Int) (name : ByteArray) (n : Int) : FSt := match aget dir S.inodes with
  | some d => setIno S dir { d with ents := aset name n d.ents }
  | none => S
def makesS (S : FSt) (op dir : Int) (name : ByteArray) (i : Ino) : Int × Int × FSt :=
  if isMetaS i.mt = true then
    if (aget name (entsS S dir)).isSome then (0, 104, S)
    else if (S.inodes.length : Int) ≥ S.nodes ∨ S.next ≥ 1099511627776 then (0, 105, S)
    else (S.next, 0, doneS (linkEnt (setIno { S with next := S.next + 1 } S.next { i with links := 1, up := dir }) dir name S.next) ⟨op, dir, name, S.next, 0, noName, 0, 0⟩)
  else (0, 1, S)
def mkdirS (S : FSt) (dir : Int) (name : ByteArray) (m : Mt) : Int × Int × FSt := if atS S dir name = 0 then makesS S 1 dir name ⟨1, m, [], noName, [], 0, 0⟩ else (0, atS S dir name, S)
def createS (S : FSt) (dir : Int) (name : ByteArray) (m : Mt) : Int × Int × FSt := if atS S dir name = 0 then makesS S 2 dir name ⟨2, m, [], noName, [], 0, 0⟩ else (0, atS S dir name, S)
def symlinkS (S : FSt) (dir : Int) (name target : ByteArray) (m : Mt) : Int × Int × FSt :=
  if atS S dir name = 0 then (if isTargetS target = true then makesS S 3 dir name ⟨3, m, [], target, [], 0, 0⟩ else (0, 107, S)) else (0, atS S dir name, S)
def linkS (S : FSt) (dir : Int) (name : ByteArray) (node : Int) : Int × FSt :=
  if thereS S [dir, node] = 0 then
    if atS S dir name = 0 then
      if (aget name (entsS S dir)).isSome then (104, S)
      else match aget node S.inodes with
        | some i => if i.kind = 1 then (106, S) else
            (0, doneS (setIno (linkEnt S dir name node) node { i with links := i.links + 1 }) ⟨4, dir, name, node, 0, noName, 0, 0⟩)
        | none => (100, S)
    else (atS S dir name, S)
  else (thereS S [dir, node], S)
def readS (S : FSt) (node at_ n : Int) : List Int × Int := match aget node S.inodes with
  | none => ([], 100)
  | some i => if at_ < 0 ∨ n < 0 then ([], 1) else if i.kind ≠ 2 then ([], 106) else if at_ ≥ i.data.length then ([], 0)
      else ((i.data.drop at_.toNat).take (min n ((i.data.length : Int) - at_)).toNat, 0)
/-- A file's bytes at another length. -/
def resized (data : List Int) (size : Nat) : List Int := data.take size ++ List.replicate (size - data.length) 0
def sizedS (S : FSt) (node : Int) (i : Ino) (size : Int) : Int × FSt :=
  if size - i.data.length > S.bytes - S.used then (105, S)
  else (0, setIno { S with used := S.used + (size - i.data.length) } node { i with data := resized i.data size.toNat })
def overlay (data : List Int) (at_ : Nat) (b : List Int) : List Int := data.take at_ ++ b ++ data.drop (at_ + b.length)
def dataSet (S : FSt) (node : Int) (f : List Int → List Int) : FSt := match aget node S.inodes with
  | some i => setIno S node { i with data := f i.data }
  | none => S
def writeS (S : FSt) (node at_ : Int) (b : List Int) : Int × FSt := match aget node S.inodes with
  | none => (100, S)
  | some i => if at_ < 0 ∨ at_ > 4194304 ∨ (b.length : Int) > 4194304 - at_ then (1, S) else if i.kind ≠ 2 then (106, S)
      else if 0 < b.length ∧ at_ + b.length > i.data.length then
        (if (sizedS S node i (at_ + b.length)).1 = 0 then (0, doneS (dataSet (sizedS S node i (at_ + b.length)).2 node fun d => overlay d at_.toNat b) ⟨5, 0, noName, node, 0, noName, at_, b.length⟩)
         else ((sizedS S node i (at_ + b.length)).1, S))
      else (0, doneS (if 0 < b.length then dataSet S node fun d => overlay d at_.toNat b else S) ⟨5, 0, noName, node, 0, noName, at_, b.length⟩)
def resizeS (S : FSt) (node size : Int) : Int × FSt := match aget node S.inodes with
  | none => (100, S)
  | some i => if size < 0 ∨ size > 4194304 then (1, S) else if i.kind ≠ 2 then (106, S)
      else if (sizedS S node i size).1 = 0 then (0, doneS (sizedS S node i size).2 ⟨6, 0, noName, node, 0, noName, 0, size⟩) else ((sizedS S node i size).1, S)
def readlinkS (S : FSt) (node : Int) : ByteArray × Int := match aget node S.inodes with
  | none => (noName, 100)
  | some i => if i.kind ≠ 3 then (noName, 106) else (i.target, 0)
def changeS (S : FSt) (node : Int) (m : Mt) : Int × FSt := match aget node S.inodes with
  | none => (100, S)
  | some i => if isMetaS m = true then (0, doneS (setIno S node { i with mt := m }) ⟨10, 0, noName, node, 0, noName, 0, 0⟩) else (1, S)
/-- An entry is taken away, and with the last one the inode. -/
def losesS (S : FSt) (dir : Int) (name : ByteArray) : FSt := match aget dir S.inodes with
  | none => S
  | some d => match aget name d.ents with
    | none => S
    | some n => match aget n (aset dir { d with ents := adel name d.ents } S.inodes) with
      | none => S
      | some i => if i.links - 1 = 0 then { S with used := S.used - i.data.length, inodes := adel n (aset n { i with links := i.links - 1 } (aset dir { d with ents := adel name d.ents } S.inodes)) }
          else { S with inodes := aset n { i with links := i.links - 1 } (aset dir { d with ents := adel name d.ents } S.inodes) }
def takesS (S : FSt) (op dir : Int) (name : ByteArray) : Int × FSt :=
  if (lookupS S dir name).2 = 0 then
    match aget (lookupS S dir name).1 S.inodes with
    | none => (0, S)
    | some i => if (decide (i.kind = 1) != decide (op = 8)) = true then (106, S) else if 0 < i.ents.length then (109, S)
        else (0, doneS (losesS S dir name) ⟨op, dir, name, (lookupS S dir name).1, 0, noName, 0, 0⟩)
  else ((lookupS S dir name).2, S)
def newS (nodes bytes : Int) : Option FSt :=
  if nodes < 1 ∨ nodes > 4096 ∨ bytes < 0 ∨ bytes > 4194304 then none
  else some ⟨nodes, bytes, 2, 0, [(1, ⟨1, zeroMt, [], noName, [], 1, 1⟩)], []⟩
end Go.Proofs.YtcjahipcfcghlaaGreatV

/- How a file system lies in memory. -/
namespace Go.Proofs.YtcjahipcfcghlaaGreatV
open Go.RowKit
set_option linter.unusedVariables false
set_option linter.unusedSimpArgs false

def encPtr (b : Nat) : Value := .pointer (some ⟨b, 0, none⟩)
def inoCells (i : Ino) (dv ev : Value) : Array Value :=
  #[.int .i64 i.kind, .int .u32 i.mt.mode, .int .u32 i.mt.uid, .int .u32 i.mt.gid, .int .i64 i.mt.time, .int .i32 i.mt.nano, dv, .string i.target, ev, .int .i64 i.links, .int .i64 i.up]
def actCells (a : Act8) : List Value := [.int .i64 a.op, .int .i64 a.dir, .string a.name, .int .i64 a.node, .int .i64 a.to, .string a.other, .int .i64 a.at_, .int .i64 a.n]
def byteCells (l : List Int) : List Value := l.map (Value.int .u8)
structure Phys where
  mb : Nat
  tv : Value
  ib : Int → Nat
  dv : Int → Value
  ev : Int → Value
structure RowAt (w : World) (B : Nat) (e : TypeId) (size : Nat) (ok : Nat → Prop) (v : Value) (n : Nat) (xs : List Value) : Prop where
  own : w.ownsRow B e size v n xs
  ok : ∀ k, v.ownBlock = some k → ok k
theorem own_move {w w1 : World} {base : Nat} {e : TypeId} {size n : Nat} {v : Value} {xs : List Value} (h : w.ownsRow base e size v n xs) (hm : ∀ k, v.ownBlock = some k → w1.heap[k]? = w.heap[k]?) : w1.ownsRow base e size v n xs := by
  obtain ⟨h1, h2⟩ := h
  refine ⟨h1, ?_⟩
  rcases h2 with h2 | ⟨g, cap, cur, rfl, hg, hh, r⟩
  · exact .inl h2
  · exact .inr ⟨g, cap, cur, rfl, hg, (hm g (by simp [Value.ownBlock])).trans hh, r⟩
theorem RowAt.move {w w' : World} {B : Nat} {e : TypeId} {size n : Nat} {ok ok' : Nat → Prop} {v : Value} {xs : List Value} (h : RowAt w B e size ok v n xs) (hm : ∀ k, ok k → w'.heap[k]? = w.heap[k]? ∧ ok' k) : RowAt w' B e size ok' v n xs :=
  ⟨own_move h.own fun k hk => (hm k (h.ok k hk)).1, fun k hk => (hm k (h.ok k hk)).2⟩
def EntAt (w : World) (ok : Nat → Prop) (ev : Value) (i : Ino) : Prop :=
  (i.kind = 1 ∧ ∃ eb, ev = .map (some eb) ∧ ok eb ∧ MapAt keyStr (Value.int .i64) w eb i.ents) ∨ (i.kind ≠ 1 ∧ ev = .map none ∧ i.ents = [])
theorem EntAt.move {w w' : World} {ok ok' : Nat → Prop} {ev : Value} {i : Ino} (h : EntAt w ok ev i) (hm : ∀ k, ok k → w'.heap[k]? = w.heap[k]? ∧ ok' k) : EntAt w' ok' ev i := by
  rcases h with ⟨h1, eb, h2, h3, h4⟩ | h
  · exact .inl ⟨h1, eb, h2, (hm eb h3).2, h4.of_block (hm eb h3).1⟩
  · exact .inr h
structure InoAt (w : World) (B : Nat) (own : Nat → Option Int) (n : Int) (ib : Nat) (dv ev : Value) (i : Ino) : Prop where
  cells : w.heap[ib]? = some (.cells (inoCells i dv ev) 71 (0, 0))
  ok : own ib = some n
  data : RowAt w B 5 1 (fun k => own k = some n) dv i.data.length (byteCells i.data)
  ents : EntAt w (fun k => own k = some n) ev i
theorem InoAt.move {w w' : World} {B : Nat} {own own' : Nat → Option Int} {n : Int} {ib : Nat} {dv ev : Value} {i : Ino} (h : InoAt w B own n ib dv ev i) (hm : ∀ k, own k = some n → w'.heap[k]? = w.heap[k]? ∧ own' k = some n) : InoAt w' B own' n ib dv ev i :=
  ⟨(hm ib h.ok).1.trans h.cells, (hm ib h.ok).2, h.data.move hm, h.ents.move hm⟩
def topCells (S : FSt) (Ph : Phys) : Array Value := #[.int .i64 S.nodes, .int .i64 S.bytes, .int .i64 S.next, .int .i64 S.used, .map (some Ph.mb), Ph.tv]
structure FSRep (w : World) (B f : Nat) (own : Nat → Option Int) (Ph : Phys) (S : FSt) : Prop where
  below : ∀ b n, own b = some n → B ≤ b ∧ b < w.heap.size
  top : w.heap[f]? = some (.cells (topCells S Ph) 68 (0, 0))
  okf : own f = some (-1)
  okm : own Ph.mb = some (-1)
  map : MapAt keyInt encPtr w Ph.mb (S.inodes.map fun p => (p.1, Ph.ib p.1))
  trace : RowAt w B 76 8 (fun k => own k = some (-1)) Ph.tv S.trace.length (S.trace.flatMap actCells)
  inos : ∀ n i, aget n S.inodes = some i → InoAt w B own n (Ph.ib n) (Ph.dv n) (Ph.ev n) i
  nodup : (akeys S.inodes).Nodup
  pos : ∀ n, n ∈ akeys S.inodes → 0 < n
/-- What the calls ask of a state's numbers. -/
structure Inv (S : FSt) : Prop where
  nodes : 1 ≤ S.nodes ∧ S.nodes ≤ 4096
  bytes : 0 ≤ S.bytes ∧ S.bytes ≤ 4194304
  next : 2 ≤ S.next ∧ S.next ≤ 1099511627776
  used : 0 ≤ S.used ∧ S.used ≤ S.bytes
  count : (S.inodes.length : Int) ≤ S.nodes
  trace : S.trace.length ≤ 1000000000
  ino : ∀ n i, aget n S.inodes = some i → i.data.length ≤ 4194304 ∧ 0 ≤ i.links ∧ i.links ≤ 1000000000000 ∧ i.target.size ≤ 4096 ∧ i.ents.length ≤ 1000000000000 ∧ n < S.next
  ents : ∀ n i, aget n S.inodes = some i → ∀ e ∈ i.ents, ∃ j, aget e.2 S.inodes = some j
theorem cell_of {w : World} {b : Nat} {c : Array Value} {t : TypeId} {fr : Nat × Nat} (h : w.heap[b]? = some (.cells c t fr)) (j : Nat) : w.cell? ⟨b, j, none⟩ = c[j]? := by
  simp [World.cell?, h]
theorem frozen_of {w : World} {b : Nat} {c : Array Value} {t : TypeId} (h : w.heap[b]? = some (.cells c t (0, 0))) (j : Nat) : w.frozen? ⟨b, j, none⟩ = false := by
  simp [World.frozen?, h]
theorem aget_map {κ ν μ : Type} [DecidableEq κ] (k : κ) (g : κ → μ) : ∀ (l : List (κ × ν)), aget k (l.map fun p => (p.1, g p.1)) = (aget k l).map fun _ => g k
  | [] => rfl
  | p :: l => by
    simp only [List.map_cons, aget]
    by_cases h : p.1 = k
    · rw [if_pos h, if_pos h, h]; rfl
    · rw [if_neg h, if_neg h]; exact aget_map k g l
/-- Nothing else has turned. -/
structure Frame (w w' : World) (own own' : Nat → Option Int) : Prop where
  os : w'.os = w.os
  tape : w'.tape = w.tape
  output : w'.output = w.output
  size : w.heap.size ≤ w'.heap.size
  block : ∀ b, b < w.heap.size → own b = none → w'.heap[b]? = w.heap[b]? ∧ own' b = none
theorem Frame.refl (w : World) (own : Nat → Option Int) : Frame w w own own := ⟨rfl, rfl, rfl, Nat.le_refl _, fun _ _ h => ⟨rfl, h⟩⟩
theorem Frame.trans {a b c : World} {o p q : Nat → Option Int} (h : Frame a b o p) (k : Frame b c p q) : Frame a c o q :=
  ⟨k.os.trans h.os, k.tape.trans h.tape, k.output.trans h.output, Nat.le_trans h.size k.size, fun i hi ho => by
    obtain ⟨h1, h2⟩ := h.block i hi ho
    obtain ⟨h3, h4⟩ := k.block i (Nat.lt_of_lt_of_le hi h.size) h2
    exact ⟨h3.trans h1, h4⟩⟩
theorem Frame.of_below {w w' : World} {own : Nat → Option Int} (h : Below w.heap.size w w') : Frame w w' own own := ⟨h.os, h.tape, h.output, h.size, fun b hb ho => ⟨h.block b hb, ho⟩⟩
theorem FSRep.move {w w' : World} {B f : Nat} {own : Nat → Option Int} {Ph : Phys} {S : FSt} (h : FSRep w B f own Ph S) (hs : w.heap.size ≤ w'.heap.size) (hm : ∀ b n, own b = some n → w'.heap[b]? = w.heap[b]?) : FSRep w' B f own Ph S :=
  ⟨fun b n hb => ⟨(h.below b n hb).1, Nat.lt_of_lt_of_le (h.below b n hb).2 hs⟩, (hm f _ h.okf).trans h.top, h.okf, h.okm, h.map.of_block (hm _ _ h.okm), h.trace.move fun k hk => ⟨hm k _ hk, hk⟩,
    fun n i hi => (h.inos n i hi).move fun k hk => ⟨hm k _ hk, hk⟩, h.nodup, h.pos⟩
theorem FSRep.of_below {w w' : World} {B f : Nat} {own : Nat → Option Int} {Ph : Phys} {S : FSt} (h : FSRep w B f own Ph S) (hb : Below w.heap.size w w') : FSRep w' B f own Ph S :=
  h.move hb.size fun b n ho => hb.block b (h.below b n ho).2
theorem FSRep.drewN {w : World} {B f : Nat} {own : Nat → Option Int} {Ph : Phys} {S : FSt} (h : FSRep w B f own Ph S) (k : Nat) : FSRep (w.drewN k) B f own Ph S :=
  h.move (Nat.le_refl _) fun b n ho => rfl
section
variable {w : World} {B f : Nat} {own : Nat → Option Int} {Ph : Phys} {S : FSt}
theorem FSRep.f_lt (h : FSRep w B f own Ph S) : f < w.heap.size := (h.below f _ h.okf).2
theorem FSRep.look_run {P : Program} {t kt et : TypeId} (h : FSRep w B f own Ph S) (ht : P.underlying t = some (.map kt et)) (hk : P.underlying kt = some (.int .i64)) (hz : ∀ w, (zeroValue et).run P w = .ok (.pointer none) w) (n : Int) :
    (Instr.lookup t (.map (some Ph.mb)) (.int .i64 n) false).run P w = .ok (match aget n S.inodes with | some _ => .pointer (some ⟨Ph.ib n, 0, none⟩) | none => .pointer none) w := by
  have := h.map.look ht hk (hz w) n false
  rw [aget_map] at this
  refine this.trans ?_
  cases aget n S.inodes <;> rfl
end
end Go.Proofs.YtcjahipcfcghlaaGreatV
