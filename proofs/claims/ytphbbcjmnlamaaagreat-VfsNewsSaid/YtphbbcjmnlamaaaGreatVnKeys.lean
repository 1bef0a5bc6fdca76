/- VfsNews: what the kit's contracts on sorted keys read of a map's block. -/
import Derived.Test.YtphbbcjmnlamaaaGreatVnRef3
import Derived.Test.YtphbbcjmnlamaaaGreatIter
import Derived.Test.YtphbbcjmnlamaaaGreatIterI
import Derived.Test.YtphbbcjmnlamaaaGreatClone
import Derived.Maps.Keyed
namespace Go.Proofs.YtphbbcjmnlamaaaGreatV
open Go.RowKit
set_option linter.unusedVariables false
set_option linter.unusedSimpArgs false
theorem valI_inj {a b : Int} (h : Value.int .i64 a = Value.int .i64 b) : a = b := by cases h; rfl
theorem nodup_inj {α β : Type} (f : α → β) : ∀ {l : List α}, (l.map f).Nodup → ∀ {a b : α}, a ∈ l → b ∈ l → f a = f b → a = b
  | x :: l, h, a, b, ha, hb, e => by
    rw [List.map_cons, List.nodup_cons] at h
    rcases List.mem_cons.1 ha with ea | ha <;> rcases List.mem_cons.1 hb with eb | hb
    · rw [ea, eb]
    · exact absurd (List.mem_map.2 ⟨b, hb, by rw [← e, ea]⟩) h.1
    · exact absurd (List.mem_map.2 ⟨a, ha, by rw [e, eb]⟩) h.1
    · exact nodup_inj f h.2 ha hb e
theorem es_mem {ν : Type} {venc : ν → Value} {es : List MapEntry} {m : List (ByteArray × ν)} (h : EsIs keyStr venc es m) : ∀ e ∈ es, ∃ p ∈ m, e.key = .string p.1 ∧ e.val = venc p.2 := by
  intro e he
  have : (e.key, e.val) ∈ m.map (fun p => (keyStr.enc p.1, venc p.2)) := by
    rw [← h]
    exact List.mem_map.2 ⟨e, he, rfl⟩
  obtain ⟨p, hp, e2⟩ := List.mem_map.1 this
  exact ⟨p, hp, (congrArg Prod.fst e2).symm, (congrArg Prod.snd e2).symm⟩
theorem es_keys {ν : Type} {venc : ν → Value} {es : List MapEntry} {m : List (ByteArray × ν)} (h : EsIs keyStr venc es m) (hm : (akeys m).Nodup) : (es.map (·.key)).Nodup := by
  have e1 : es.map (·.key) = m.map (fun p => Value.string p.1) := by
    have := congrArg (List.map Prod.fst) h
    simpa [EsIs, List.map_map, Function.comp_def, keyStr] using this
  rw [e1]
  unfold akeys at hm
  have : m.map (fun p => Value.string p.1) = (m.map (·.1)).map Value.string := by rw [List.map_map]; rfl
  rw [this]
  exact List.Pairwise.map _ (fun a b hab e => hab (Value.string.inj e)) hm
theorem own_of_map {H : Type} {ν : Type} {venc : ν → Value} {w : World} {b : Nat} {m : List (ByteArray × ν)} (h : MapAt keyStr venc w b m) (hm : (akeys m).Nodup) (hl : m.length ≤ maxLen) (hk : ∀ p ∈ m, p.1.size ≤ maxLen) :
    ∃ D0 : DataW H, w.ownsMap Tryz.prog 9 (fun _ => some (.nil, [])) b m.length D0 ∧ (Go.strKeys D0).Perm (m.map fun p => p.1.data.toList) ∧ Go.Maps.size D0 = m.length := by
  obtain ⟨es, clock, hb, hes, hs1, hs2⟩ := h
  have hlen : es.size = m.length := by have := hes.len; simpa using this
  have hrd : ∀ e ∈ es.toList, ∃ p ∈ m, e.key = .string p.1 ∧ Go.WideElems.rd Tryz.prog 9 (fun _ => some ((.nil : DataW H), [])) e = some (.string p.1.data.toList, .nil) := fun e he => by
    obtain ⟨p, hp, h1, h2⟩ := es_mem hes e he
    have hko : keyOf Tryz.prog 9 e.key = some (.string p.1.data.toList) := by
      rw [h1]
      exact Go.WideMaps.keyOf_string_mk Tryz.underlying9 (hk p hp)
    refine ⟨p, hp, h1, ?_⟩
    simp [Go.WideElems.rd, hko]
  refine ⟨_, ⟨es, clock, hb, ⟨by omega, ?_, fun x hx => ?_⟩, by omega, rfl⟩, ?_, ?_⟩
  · rw [MapKept.stamped_iff]
    refine ⟨hs1, hs2, ?_⟩
    have := es_keys hes hm
    rw [List.nodup_iff_pairwise_ne, List.pairwise_map] at this
    exact this
  · obtain ⟨p, _, _, hr⟩ := hrd x hx
    exact ⟨_, hr⟩
  · have hp := (Go.WideShapes.sorted_perm (es.toList.map (Go.WideElems.rg Tryz.prog 9 (fun _ => some ((.nil : DataW H), []))))).map (fun p => Go.strOf p.1)
    refine hp.trans ?_
    rw [List.map_map]
    have e1 : es.toList.map ((fun p => Go.strOf p.1) ∘ Go.WideElems.rg Tryz.prog 9 (fun _ => some ((.nil : DataW H), []))) = (es.toList.map (·.key)).map (fun v => match v with | .string s => s.data.toList | _ => []) := by
      rw [List.map_map]
      refine List.map_congr_left (fun e he => ?_)
      obtain ⟨p, hp, h1, h2⟩ := hrd e he
      simp only [Function.comp, Go.WideElems.rg_of h2, h1]
      rfl
    have e2 : es.toList.map (·.key) = m.map (fun p => Value.string p.1) := by
      have := congrArg (List.map Prod.fst) hes
      simpa [EsIs, List.map_map, Function.comp_def, keyStr] using this
    rw [e1, e2, List.map_map]
    exact List.Perm.refl _
  · show ((es.toList.map _).foldr DataW.insert []).length = m.length
    rw [DataW.length_sorted, List.length_map, Array.length_toList, hlen]
theorem es_memI {ν : Type} {venc : ν → Value} {es : List MapEntry} {m : List (Int × ν)} (h : EsIs keyInt venc es m) : ∀ e ∈ es, ∃ p ∈ m, e.key = .int .i64 p.1 ∧ e.val = venc p.2 := by
  intro e he
  have : (e.key, e.val) ∈ m.map (fun p => (keyInt.enc p.1, venc p.2)) := by
    rw [← h]
    exact List.mem_map.2 ⟨e, he, rfl⟩
  obtain ⟨p, hp, e2⟩ := List.mem_map.1 this
  exact ⟨p, hp, (congrArg Prod.fst e2).symm, (congrArg Prod.snd e2).symm⟩
theorem es_keysI {ν : Type} {venc : ν → Value} {es : List MapEntry} {m : List (Int × ν)} (h : EsIs keyInt venc es m) (hm : (akeys m).Nodup) : (es.map (·.key)).Nodup := by
  have e1 : es.map (·.key) = m.map (fun p => Value.int .i64 p.1) := by
    have := congrArg (List.map Prod.fst) h
    simpa [EsIs, List.map_map, Function.comp_def, keyInt] using this
  rw [e1]
  unfold akeys at hm
  have : m.map (fun p => Value.int .i64 p.1) = (m.map (·.1)).map (Value.int .i64) := by rw [List.map_map]; rfl
  rw [this]
  exact List.Pairwise.map _ (fun a b hab e => hab (valI_inj e)) hm
theorem own_of_mapI {H : Type} {ν : Type} {venc : ν → Value} {w : World} {b : Nat} {m : List (Int × ν)} (h : MapAt keyInt venc w b m) (hm : (akeys m).Nodup) (hl : m.length ≤ maxLen) (hk : ∀ p ∈ m, (Lit.int .i64 p.1).wf = true) :
    ∃ D0 : DataW H, w.ownsMap Tryz.prog 3 (fun _ => some (.nil, [])) b m.length D0 ∧ (Go.intKeys D0).Perm (m.map fun p => p.1) ∧ Go.Maps.size D0 = m.length := by
  obtain ⟨es, clock, hb, hes, hs1, hs2⟩ := h
  have hlen : es.size = m.length := by have := hes.len; simpa using this
  have hrd : ∀ e ∈ es.toList, ∃ p ∈ m, e.key = .int .i64 p.1 ∧ Go.WideElems.rd Tryz.prog 3 (fun _ => some ((.nil : DataW H), [])) e = some (.int .i64 p.1, .nil) := fun e he => by
    obtain ⟨p, hp, h1, h2⟩ := es_memI hes e he
    have hko : keyOf Tryz.prog 3 e.key = some (.int .i64 p.1) := by
      rw [h1]
      exact Go.Maps.keyOf_int_mk Tryz.underlying3 (hk p hp)
    refine ⟨p, hp, h1, ?_⟩
    simp [Go.WideElems.rd, hko]
  refine ⟨_, ⟨es, clock, hb, ⟨by omega, ?_, fun x hx => ?_⟩, by omega, rfl⟩, ?_, ?_⟩
  · rw [MapKept.stamped_iff]
    refine ⟨hs1, hs2, ?_⟩
    have := es_keysI hes hm
    rw [List.nodup_iff_pairwise_ne, List.pairwise_map] at this
    exact this
  · obtain ⟨p, _, _, hr⟩ := hrd x hx
    exact ⟨_, hr⟩
  · have hp := (Go.WideShapes.sorted_perm (es.toList.map (Go.WideElems.rg Tryz.prog 3 (fun _ => some ((.nil : DataW H), []))))).map (fun p => Go.intOf p.1)
    refine hp.trans ?_
    rw [List.map_map]
    have e1 : es.toList.map ((fun p => Go.intOf p.1) ∘ Go.WideElems.rg Tryz.prog 3 (fun _ => some ((.nil : DataW H), []))) = (es.toList.map (·.key)).map (fun v => match v with | .int _ s => s | _ => 0) := by
      rw [List.map_map]
      refine List.map_congr_left (fun e he => ?_)
      obtain ⟨p, hp, h1, h2⟩ := hrd e he
      simp only [Function.comp, Go.WideElems.rg_of h2, h1]
      rfl
    have e2 : es.toList.map (·.key) = m.map (fun p => Value.int .i64 p.1) := by
      have := congrArg (List.map Prod.fst) hes
      simpa [EsIs, List.map_map, Function.comp_def, keyInt] using this
    rw [e1, e2, List.map_map]
    exact List.Perm.refl _
  · show ((es.toList.map _).foldr DataW.insert []).length = m.length
    rw [DataW.length_sorted, List.length_map, Array.length_toList, hlen]
end Go.Proofs.YtphbbcjmnlamaaaGreatV
