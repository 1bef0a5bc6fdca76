-- WRITTEN BY wip/xprint.py, a program of the proving session round the kit's print.py; Lean checks it.
import Derived.Test.YtcjahipcfcghlaaGreatPCompareStepsx0
import Derived.Test.YtcjahipcfcghlaaGreatPCompareStepsx2
namespace Go.Proofs.YtcjahipcfcghlaaGreat.PCompareSteps
open Go.Proofs.YtcjahipcfcghlaaGreatX
open Go.RowKit Go.Proofs.YtcjahipcfcghlaaGreatW.PrintWords Go.Proofs.YtcjahipcfcghlaaGreatW.PrintLast Go.Proofs.YtcjahipcfcghlaaGreatW.PrintMore
attribute [local go_sem] str_leq str_gtr max2_int min2_int max_two min_two max_three min_three max_four min_four   -- for this text's walks alone
set_option linter.unusedVariables false
set_option linter.unusedSimpArgs false

/-! ### compare_Changes: function 6 -/
section
theorem infoDiff_ : (Tryz.prog.info? 27).map (fun i => (i.zero, i.size, i.bytes)) = some (some (.agg #[.string ⟨#[]⟩, .int .i64 0]), 2, 24) := by kernel_rfl
open Go.Proofs.YtcjahipcfcghlaaGreatV (EsIs KeyEnc MapAt Turned adel adel_length adel_nodup adel_sub aget aget_adel aget_aset aget_mem aget_none_iff aget_of_mem aidx aidx_iff aidx_none aidx_some akeys akeys_aset aset aset_length_none aset_length_some aset_nodup beq_bytes erase_map find_none find_some heap_setBlock keyInt keyStr modify_set turned_setBlock wpList_drop wpList_look wpList_put)
def encM (x : S46) : Value := .agg #[.string x.f0, .int .i64 x.f1, .int .u32 x.f2.f0, .int .u32 x.f2.f1, .int .u32 x.f2.f2, .int .i64 x.f2.f3, .int .i32 x.f2.f4, .int .i64 x.f3, .int .u64 x.f4, .string x.f5]
def encI (x : Int) : Value := .int .i64 x
abbrev MM := List (ByteArray × S46)
def mapOfM (l : List S46) : MM := l.foldl (fun m x => aset x.f0 x m) []
theorem mapOfM_snoc (l : List S46) (x : S46) : mapOfM (l ++ [x]) = aset x.f0 x (mapOfM l) := by simp [mapOfM]
theorem fold_nodup : ∀ (l : List S46) (m : MM), (akeys m).Nodup → (akeys (l.foldl (fun m x => aset x.f0 x m) m)).Nodup
  | [], m, h => h
  | x :: l, m, h => fold_nodup l _ (aset_nodup h)
theorem mapOfM_nodup (l : List S46) : (akeys (mapOfM l)).Nodup := fold_nodup l [] (by simp [akeys])
theorem aset_len {ν : Type} (k : ByteArray) (v : ν) (m : List (ByteArray × ν)) : (aset k v m).length ≤ m.length + 1 := by
  cases h : aget k m with
  | none => exact Nat.le_of_eq (aset_length_none v h)
  | some u => rw [aset_length_some v h]; omega
theorem fold_len : ∀ (l : List S46) (m : MM), (l.foldl (fun m x => aset x.f0 x m) m).length ≤ m.length + l.length
  | [], m => by simp
  | x :: l, m => by
    have h1 := fold_len l (aset x.f0 x m)
    have h2 := aset_len x.f0 x m
    simp only [List.foldl_cons, List.length_cons]
    omega
theorem mapOfM_len (l : List S46) : (mapOfM l).length ≤ l.length := by simpa [mapOfM] using fold_len l []
theorem aset_mem {ν : Type} {k : ByteArray} {v : ν} {p : ByteArray × ν} : ∀ {m : List (ByteArray × ν)}, p ∈ aset k v m → p = (k, v) ∨ p ∈ m
  | [], h => by simp [aset] at h; exact .inl h
  | q :: m, h => by
    simp only [aset] at h
    split at h
    · rcases List.mem_cons.1 h with h | h
      · exact .inl h
      · exact .inr (List.mem_cons_of_mem _ h)
    · rcases List.mem_cons.1 h with h | h
      · exact .inr (by rw [h]; simp)
      · rcases aset_mem h with h | h
        · exact .inl h
        · exact .inr (List.mem_cons_of_mem _ h)
theorem fold_mem : ∀ (l : List S46) (m : MM) (p : ByteArray × S46), p ∈ l.foldl (fun m x => aset x.f0 x m) m → p ∈ m ∨ (p.2 ∈ l ∧ p.1 = p.2.f0)
  | [], m, p, h => .inl h
  | x :: l, m, p, h => by
    rcases fold_mem l _ p h with h | h
    · rcases aset_mem h with h | h
      · exact .inr ⟨by rw [h]; simp, by rw [h]⟩
      · exact .inl h
    · exact .inr ⟨List.mem_cons_of_mem _ h.1, h.2⟩
theorem mapOfM_mem {l : List S46} {p : ByteArray × S46} (h : p ∈ mapOfM l) : p.2 ∈ l ∧ p.1 = p.2.f0 := by
  rcases fold_mem l [] p h with h | h
  · simp at h
  · exact h
theorem turned_grown {w w' : World} {b : Nat} (h : Turned w w' b) : w.grownBy w' (some b) := ⟨h.os, h.tape, h.output, Nat.le_of_eq h.size.symm, fun k _ hk => h.block k (fun e => hk (by rw [e]))⟩
theorem ch_nodup_inj {α β : Type} (f : α → β) : ∀ {l : List α}, (l.map f).Nodup → ∀ {a b : α}, a ∈ l → b ∈ l → f a = f b → a = b
  | x :: l, h, a, b, ha, hb, e => by
    rw [List.map_cons, List.nodup_cons] at h
    rcases List.mem_cons.1 ha with ea | ha <;> rcases List.mem_cons.1 hb with eb | hb
    · rw [ea, eb]
    · exact absurd (List.mem_map.2 ⟨b, hb, by rw [← e, ea]⟩) h.1
    · exact absurd (List.mem_map.2 ⟨a, ha, by rw [e, eb]⟩) h.1
    · exact ch_nodup_inj f h.2 ha hb e
/-- What a range has told so far: pairs of the map, no key twice. -/
structure PSr {ν : Type} (m : List (ByteArray × ν)) (es : List MapEntry) (ps : List (ByteArray × ν)) (seen : Array Nat) : Prop where
  nodup : (ps.map (·.1)).Nodup
  mem : ∀ p ∈ ps, p ∈ m
  seen : ∀ e ∈ es, seen.contains e.born = true ↔ ∃ p ∈ ps, e.key = .string p.1
theorem ch_es_mem {ν : Type} {venc : ν → Value} {es : List MapEntry} {m : List (ByteArray × ν)} (h : EsIs keyStr venc es m) : ∀ e ∈ es, ∃ p ∈ m, e.key = .string p.1 ∧ e.val = venc p.2 := by
  intro e he
  have : (e.key, e.val) ∈ m.map (fun p => (keyStr.enc p.1, venc p.2)) := by
    rw [← h]
    exact List.mem_map.2 ⟨e, he, rfl⟩
  obtain ⟨p, hp, e2⟩ := List.mem_map.1 this
  exact ⟨p, hp, (congrArg Prod.fst e2).symm, (congrArg Prod.snd e2).symm⟩
theorem ch_es_keys {ν : Type} {venc : ν → Value} {es : List MapEntry} {m : List (ByteArray × ν)} (h : EsIs keyStr venc es m) (hm : (akeys m).Nodup) : (es.map (·.key)).Nodup := by
  have e1 : es.map (·.key) = m.map (fun p => Value.string p.1) := by
    have := congrArg (List.map Prod.fst) h
    simpa [EsIs, List.map_map, Function.comp_def, keyStr] using this
  rw [e1]
  unfold akeys at hm
  have : m.map (fun p => Value.string p.1) = (m.map (·.1)).map Value.string := by rw [List.map_map]; rfl
  rw [this]
  exact List.Pairwise.map _ (fun a b hab e => hab (Value.string.inj e)) hm
theorem ps_step {ν : Type} {venc : ν → Value} {m : List (ByteArray × ν)} {es : List MapEntry} {ps : List (ByteArray × ν)} {seen : Array Nat} (hE : EsIs keyStr venc es m) (hm : (akeys m).Nodup) (hnd : (es.map (·.born)).Nodup) (h : PSr m es ps seen) {e : MapEntry} (he : e ∈ es) (hs : seen.contains e.born = false) {q : ByteArray × ν} (hk : e.key = .string q.1) (hkv : q ∈ m) :
    PSr m es (ps ++ [q]) (seen.push e.born) where
  nodup := by
    rw [List.map_append, List.nodup_append]
    refine ⟨h.nodup, by simp, fun a ha b hb => ?_⟩
    obtain ⟨p, hp, rfl⟩ := List.mem_map.1 ha
    simp at hb
    subst hb
    intro e2
    have := (h.seen e he).2 ⟨p, hp, by rw [hk, e2]⟩
    rw [this] at hs
    cases hs
  mem := fun p hp => by
    rcases List.mem_append.1 hp with hp | hp
    · exact h.mem p hp
    · simp at hp; subst hp; exact hkv
  seen := fun e' he' => by
    rw [Go.contains_push, Bool.or_eq_true, h.seen e' he', beq_iff_eq]
    constructor
    · rintro (⟨p, hp, e1⟩ | e1)
      · exact ⟨p, List.mem_append_left _ hp, e1⟩
      · have := ch_nodup_inj (·.born) hnd he' he e1
        subst this
        exact ⟨q, by simp, hk⟩
    · rintro ⟨p, hp, e1⟩
      rcases List.mem_append.1 hp with hp | hp
      · exact .inl ⟨p, hp, e1⟩
      · simp at hp
        subst hp
        exact .inr (by rw [ch_nodup_inj (·.key) (ch_es_keys hE hm) he' he (by rw [e1, hk])])
theorem ps_end {ν : Type} {venc : ν → Value} {m : List (ByteArray × ν)} {es : List MapEntry} {ps : List (ByteArray × ν)} {seen : Array Nat} (hE : EsIs keyStr venc es m) (hm : (akeys m).Nodup) (h : PSr m es ps seen) (hall : ∀ e ∈ es, seen.contains e.born = true) : ∀ p, p ∈ ps ↔ p ∈ m := by
  intro p
  refine ⟨h.mem p, fun hp => ?_⟩
  have : (keyStr.enc p.1, venc p.2) ∈ es.map (fun e => (e.key, e.val)) := by
    rw [show es.map (fun e => (e.key, e.val)) = _ from hE]
    exact List.mem_map.2 ⟨_, hp, rfl⟩
  obtain ⟨e, he, e2⟩ := List.mem_map.1 this
  obtain ⟨q, hq, hqe⟩ := (h.seen e he).1 (hall e he)
  have e3 : e.key = .string p.1 := congrArg Prod.fst e2
  have e4 : q.1 = p.1 := Value.string.inj (hqe.symm.trans e3)
  have h1 := aget_of_mem hm (show (p.1, p.2) ∈ m from hp)
  have h2 := aget_of_mem hm (show (q.1, q.2) ∈ m from h.mem q hq)
  rw [e4, h1] at h2
  have e5 : p.2 = q.2 := Option.some.inj h2
  have : p = q := Prod.ext e4.symm e5
  rw [this]; exact hq
noncomputable def leftAt (r : Nat) (es : Array MapEntry) (w : World) : Nat := match w.heap[r]? with
  | some (.mapIter _ _ seen _) => (leftOf es seen).size
  | _ => 0
theorem data_inj {a b : ByteArray} (h : a.toList = b.toList) : a = b := by
  rw [Lib.toList_data, Lib.toList_data] at h
  obtain ⟨⟨x⟩⟩ := a
  obtain ⟨⟨y⟩⟩ := b
  have : x = y := h
  rw [this]
/-- A map's block, as the kit reads it. -/
theorem ch_own_of_map {H : Type} {ν : Type} {venc : ν → Value} {w : World} {b : Nat} {m : List (ByteArray × ν)} (h : MapAt keyStr venc w b m) (hm : (akeys m).Nodup) (hl : m.length ≤ maxLen) (hk : ∀ p ∈ m, p.1.size ≤ maxLen) :
    ∃ D0 : DataW H, w.ownsMap Tryz.prog 9 (fun _ => some (.nil, [])) b m.length D0 ∧ (Go.strKeys D0).Perm (m.map fun p => p.1.data.toList) ∧ Go.Maps.size D0 = m.length := by
  obtain ⟨es, clock, hb, hes, hs1, hs2⟩ := h
  have hlen : es.size = m.length := by have := hes.len; simpa using this
  have hrd : ∀ e ∈ es.toList, ∃ p ∈ m, e.key = .string p.1 ∧ Go.WideElems.rd Tryz.prog 9 (fun _ => some ((.nil : DataW H), [])) e = some (.string p.1.data.toList, .nil) := fun e he => by
    obtain ⟨p, hp, h1, h2⟩ := ch_es_mem hes e he
    have hko : keyOf Tryz.prog 9 e.key = some (.string p.1.data.toList) := by
      rw [h1]
      exact Go.WideMaps.keyOf_string_mk Tryz.underlying9 (hk p hp)
    refine ⟨p, hp, h1, ?_⟩
    simp [Go.WideElems.rd, hko]
  refine ⟨_, ⟨es, clock, hb, ⟨by omega, ?_, fun x hx => ?_⟩, by omega, rfl⟩, ?_, ?_⟩
  · rw [MapKept.stamped_iff]
    refine ⟨hs1, hs2, ?_⟩
    have := ch_es_keys hes hm
    rw [List.nodup_iff_pairwise_ne, List.pairwise_map] at this
    exact this
  · obtain ⟨p, _, _, hr⟩ := hrd x hx
    exact ⟨_, hr⟩
  · have hp := (Go.WideShapes.sorted_perm (es.toList.map (Go.WideElems.rg Tryz.prog 9 (fun _ => some ((.nil : DataW H), []))))).map (fun p => Go.strOf p.1)
    refine hp.trans ?_
    rw [List.map_map]
    have e1 : es.toList.map ((fun p => Go.strOf p.1) ∘ Go.WideElems.rg Tryz.prog 9 (fun _ => some ((.nil : DataW H), []))) = (es.toList.map (·.key)).map (fun v => match v with | .string s => s.data.toList | _ => []) := by
      rw [List.map_map]
      refine List.map_congr_left (fun e he => ?_)
      obtain ⟨p, hp, h1, h2⟩ := hrd e he
      simp only [Function.comp, Go.WideElems.rg_of h2, h1]
      rfl
    have e2 : es.toList.map (·.key) = m.map (fun p => Value.string p.1) := by
      have := congrArg (List.map Prod.fst) hes
      simpa [EsIs, List.map_map, Function.comp_def, keyStr] using this
    rw [e1, e2, List.map_map]
    exact List.Perm.refl _
  · show ((es.toList.map _).foldr DataW.insert []).length = m.length
    rw [DataW.length_sorted, List.length_map, Array.length_toList, hlen]
set_option maxHeartbeats 8000000 in
set_option maxRecDepth 100000 in
theorem ch.last (A0 : Option Addr) (c0 : Nat) (l0 : List S46) (w : World) (hr0 : Kd.C k46 w A0 l0.length l0) (hl : l0.length ≤ 1099511627776) :
    Calls Tryz.prog 14 #[.slice A0 l0.length c0] w fun e w' => e = .returned (.map (some w.heap.size)) ∧ MapAt keyStr encM w' w.heap.size (mapOfM l0) ∧ Below w.heap.size w w' := by
  have HL := Aside0.mk hl
  have HR0 := Aside0.mk hr0
  clear hr0 hl
  have hmm := @run_makeMap Tryz.prog
  go_enter Tryz.func14, Tryz.ntmps14
  go_wp2_with fail
  obtain ⟨W1, hW1⟩ : ∃ W1, w.alloc (.map #[] 0) = W1 := ⟨_, rfl⟩
  have hs1 : W1.heap.size = w.heap.size + 1 := by rw [← hW1]; simp
  have HB := Aside0.mk (show Below w.heap.size w W1 by rw [← hW1]; exact below_alloc (Below.refl _ _) _)
  have HM := Aside0.mk (show MapAt keyStr encM W1 w.heap.size (mapOfM (l0.take 0)) by rw [← hW1]; exact MapAt.made w)
  rw [hW1]
  clear hW1 hmm
  go_loopw [9] (fun v9 wr => ∃ i : Nat, v9 = .int .i64 (i : Int) ∧ Aside0 (i ≤ l0.length) ∧ Aside0 (Below w.heap.size w wr) ∧ Aside0 (MapAt keyStr encM wr w.heap.size (mapOfM (l0.take i)))) (fun v9 wr => l0.length - (intOf v9).toNat)
  case atStart => exact ⟨0, rfl, ⟨by omega⟩, HB, HM⟩
  case round =>
    clear HB HM hs1
    obtain ⟨i, rfl, HI, HB, HM⟩ := hrel
    by_cases hlt : i < l0.length
    · have hb : decide ((i : Int) < (l0.length : Int)) = true := decide_eq_true (by omega)
      have hb' : decide (i < l0.length) = true := decide_eq_true hlt
      obtain ⟨ad, eA, x0, x1, x2, x3, x4, x5, x6, x7, x8, x9⟩ := at_T46 (Kd.C_below HR0.out HB.out) (i : Int) (by omega) (by omega)
      obtain ⟨x, hx⟩ : ∃ x, x = rd_T46 l0 (i : Int) := ⟨_, rfl⟩
      rw [← hx] at x0 x1 x2 x3 x4 x5 x6 x7 x8 x9
      simp only [Int.toNat_natCast] at x0 x1 x2 x3 x4 x5 x6 x7 x8 x9
      have hx2 : l0.take (i + 1) = l0.take i ++ [x] := by rw [hx, List.take_add_one, List.getElem?_eq_getElem hlt]; simp [rd_T46, hlt]
      have HX := Aside0.mk hx2
      have HT := Aside0.mk hlt
      have hwi : IntKind.i64.wrap ((i : Int) + 1) = ((i + 1 : Nat) : Int) := by rw [IntWalk.i64_in _ (by have := HL.out; omega)]; omega
      have q1 : ((i : Int) < (l0.length : Int)) = True := eq_true (by omega)
      have q2 : (i < l0.length) = True := eq_true hlt
      cases eA
      have hM4 : MapAt keyStr encM (wr.alloc (.cells #[.string x.f0, .int .i64 x.f1, .int .u32 x.f2.f0, .int .u32 x.f2.f1, .int .u32 x.f2.f2, .int .i64 x.f2.f3, .int .i32 x.f2.f4, .int .i64 x.f3, .int .u64 x.f4, .string x.f5] 46)) w.heap.size (mapOfM (l0.take i)) := HM.out.of_block (Below.heap_alloc _ _ _ HM.out.lt)
      obtain ⟨w5, hput, hM5, hT5⟩ := hM4.put (P := Tryz.prog) (t := 56) (kt := 9) (et := 46) Tryz.underlying56 Tryz.underlying9 x.f0 x
      have hput' : (Instr.mapUpdate 56 (.map (some w.heap.size)) (.string x.f0) (.agg #[.string x.f0, .int .i64 x.f1, .int .u32 x.f2.f0, .int .u32 x.f2.f1, .int .u32 x.f2.f2, .int .i64 x.f2.f3, .int .i32 x.f2.f4, .int .i64 x.f3, .int .u64 x.f4, .string x.f5])).run Tryz.prog (wr.alloc (.cells #[.string x.f0, .int .i64 x.f1, .int .u32 x.f2.f0, .int .u32 x.f2.f1, .int .u32 x.f2.f2, .int .i64 x.f2.f3, .int .i32 x.f2.f4, .int .i64 x.f3, .int .u64 x.f4, .string x.f5] 46)) = .ok () w5 := hput
      have HM5 := Aside0.mk hM5
      have HT5 := Aside0.mk (turned_grown hT5)
      clear hx hx2 hlt hput hM4 hM5 hT5
      go_wp2_with fail
      have hmL := HM5.out
      rw [← mapOfM_snoc, ← HX.out] at hmL
      exact ⟨⟨i + 1, rfl, ⟨HT.out⟩, ⟨(below_alloc HB.out _).grown HT5.out (by have := below_size HB.out; simp; omega) (fun k e => by cases e; exact Nat.le_refl _)⟩, ⟨hmL⟩⟩, by have := HT.out; simp [intOf]; omega⟩
    · have hb : decide ((i : Int) < (l0.length : Int)) = false := decide_eq_false (by omega)
      have hb' : decide (i < l0.length) = false := decide_eq_false hlt
      have hiL : i = l0.length := by have := HI.out; omega
      have hM := HM.out
      rw [hiL, List.take_length] at hM
      have HM2 := Aside0.mk hM
      clear hiL hM
      go_wp2_with fail
      go_ret
      exact ⟨rfl, HM2.out, HB.out⟩
/-- How two marks of one name differ (the print's own terms, with enough fuel). -/
def otherS (a b : S46) : Int := (compare_other.f 2 a.f0 a.f1 a.f2.f0 a.f2.f1 a.f2.f2 a.f2.f3 a.f2.f4 a.f3 a.f4 a.f5 b.f0 b.f1 b.f2.f0 b.f2.f1 b.f2.f2 b.f2.f3 b.f2.f4 b.f3 b.f4 b.f5).getD 0
theorem j1_some (k : Nat) (x : Int) (a0 : ByteArray) (a1 a2 a3 a4 a5 a6 a7 a8 : Int) (a9 b0 : ByteArray) (b1 b2 b3 b4 b5 b6 b7 b8 : Int) (b9 : ByteArray) : ∃ v, compare_other.j1 (k + 1) x a0 a1 a2 a3 a4 a5 a6 a7 a8 a9 b0 b1 b2 b3 b4 b5 b6 b7 b8 b9 = some v := by
  rw [compare_other.j1]
  split <;> split <;> exact ⟨_, rfl⟩
theorem other_f (a b : S46) : compare_other.f 2 a.f0 a.f1 a.f2.f0 a.f2.f1 a.f2.f2 a.f2.f3 a.f2.f4 a.f3 a.f4 a.f5 b.f0 b.f1 b.f2.f0 b.f2.f1 b.f2.f2 b.f2.f3 b.f2.f4 b.f3 b.f4 b.f5 = some (otherS a b) := by
  have h : ∃ v, compare_other.f 2 a.f0 a.f1 a.f2.f0 a.f2.f1 a.f2.f2 a.f2.f3 a.f2.f4 a.f3 a.f4 a.f5 b.f0 b.f1 b.f2.f0 b.f2.f1 b.f2.f2 b.f2.f3 b.f2.f4 b.f3 b.f4 b.f5 = some v := by
    unfold compare_other.f
    split
    · split
      · rw [compare_other.j0]
        split <;> exact j1_some 0 _ _ _ _ _ _ _ _ _ _ _ _ _ _ _ _ _ _ _ _ _
      · rw [compare_other.j0]
        split <;> exact j1_some 0 _ _ _ _ _ _ _ _ _ _ _ _ _ _ _ _ _ _ _ _ _
    · exact ⟨_, rfl⟩
  obtain ⟨v, hv⟩ := h
  unfold otherS
  rw [hv]
  rfl
abbrev MI := List (ByteArray × Int)
def stepW (now : MM) (d : MI) (p : ByteArray × S46) : MI := match aget p.1 now with
  | none => aset p.1 2 d
  | some n => if otherS p.2 n = 0 then d else aset p.1 (otherS p.2 n) d
def stepI (was : MM) (d : MI) (p : ByteArray × S46) : MI := match aget p.1 was with
  | none => aset p.1 1 d
  | some _ => d
/-- What is told of a name. -/
def whatO (was now : MM) (k : ByteArray) : Option Int := match aget k was, aget k now with
  | none, none => none
  | none, some _ => some 1
  | some _, none => some 2
  | some a, some b => if otherS a b = 0 then none else some (otherS a b)
theorem foldW (now : MM) (k : ByteArray) : ∀ (ps : MM) (d : MI), (ps.map (·.1)).Nodup → aget k (ps.foldl (stepW now) d) = match aget k ps with
    | none => aget k d
    | some x => match aget k now with
      | none => some 2
      | some n => if otherS x n = 0 then aget k d else some (otherS x n)
  | [], d, _ => rfl
  | p :: ps, d, hn => by
    rw [List.map_cons, List.nodup_cons] at hn
    rw [List.foldl_cons, foldW now k ps _ hn.2]
    by_cases hk : p.1 = k
    · have hno : aget k ps = none := aget_none_iff.2 (by rw [← hk]; exact hn.1)
      rw [hno]
      simp only [aget, if_pos hk]
      unfold stepW
      rw [hk]
      cases aget k now with
      | none => simp [aget_aset]
      | some n =>
        simp only
        by_cases h0 : otherS p.2 n = 0
        · rw [if_pos h0, if_pos h0]
        · rw [if_neg h0, if_neg h0, aget_aset, if_pos rfl]
    · have hd : aget k (stepW now d p) = aget k d := by
        unfold stepW
        split
        · rw [aget_aset, if_neg hk]
        · split
          · rfl
          · rw [aget_aset, if_neg hk]
      rw [hd]
      simp only [aget, if_neg hk]
theorem foldI (was : MM) (k : ByteArray) : ∀ (ps : MM) (d : MI), (ps.map (·.1)).Nodup → aget k (ps.foldl (stepI was) d) = match aget k ps with
    | none => aget k d
    | some x => match aget k was with
      | none => some 1
      | some n => aget k d
  | [], d, _ => rfl
  | p :: ps, d, hn => by
    rw [List.map_cons, List.nodup_cons] at hn
    rw [List.foldl_cons, foldI was k ps _ hn.2]
    by_cases hk : p.1 = k
    · have hno : aget k ps = none := aget_none_iff.2 (by rw [← hk]; exact hn.1)
      rw [hno]
      simp only [aget, if_pos hk]
      unfold stepI
      rw [hk]
      cases aget k was with
      | none => simp [aget_aset]
      | some n => rfl
    · have hd : aget k (stepI was d p) = aget k d := by
        unfold stepI
        split
        · rw [aget_aset, if_neg hk]
        · rfl
      rw [hd]
      simp only [aget, if_neg hk]
theorem aget_perm {ν : Type} {ps m : List (ByteArray × ν)} (hn : (ps.map (·.1)).Nodup) (hm : (akeys m).Nodup) (h : ∀ p, p ∈ ps ↔ p ∈ m) (k : ByteArray) : aget k ps = aget k m := by
  apply Option.ext
  intro v
  constructor
  · intro hv
    exact aget_of_mem hm ((h _).1 (aget_mem hv))
  · intro hv
    exact aget_of_mem hn ((h _).2 (aget_mem hv))
theorem folds {was now ps qs : MM} (hp : (ps.map (·.1)).Nodup) (hq : (qs.map (·.1)).Nodup) (hw : (akeys was).Nodup) (hn : (akeys now).Nodup) (h1 : ∀ p, p ∈ ps ↔ p ∈ was) (h2 : ∀ p, p ∈ qs ↔ p ∈ now) (k : ByteArray) :
    aget k (qs.foldl (stepI was) (ps.foldl (stepW now) [])) = whatO was now k := by
  rw [foldI was k qs _ hq, foldW now k ps _ hp, aget_perm hp hw h1, aget_perm hq hn h2]
  unfold whatO
  cases aget k was with
  | none => cases aget k now <;> rfl
  | some a => cases aget k now <;> rfl
theorem stepW_nodup {now : MM} : ∀ (ps : MM) (d : MI), (akeys d).Nodup → (akeys (ps.foldl (stepW now) d)).Nodup
  | [], d, h => h
  | p :: ps, d, h => stepW_nodup ps _ (by
    unfold stepW
    split
    · exact aset_nodup h
    · split
      · exact h
      · exact aset_nodup h)
theorem stepI_nodup {was : MM} : ∀ (ps : MM) (d : MI), (akeys d).Nodup → (akeys (ps.foldl (stepI was) d)).Nodup
  | [], d, h => h
  | p :: ps, d, h => stepI_nodup ps _ (by
    unfold stepI
    split
    · exact aset_nodup h
    · exact h)
theorem stepW_len {now : MM} : ∀ (ps : MM) (d : MI), (ps.foldl (stepW now) d).length ≤ d.length + ps.length
  | [], d => by simp
  | p :: ps, d => by
    have h := stepW_len (now := now) ps (stepW now d p)
    have h2 : (stepW now d p).length ≤ d.length + 1 := by
      unfold stepW
      split
      · exact aset_len _ _ _
      · split
        · omega
        · exact aset_len _ _ _
    simp only [List.foldl_cons, List.length_cons]
    omega
theorem stepI_len {was : MM} : ∀ (ps : MM) (d : MI), (ps.foldl (stepI was) d).length ≤ d.length + ps.length
  | [], d => by simp
  | p :: ps, d => by
    have h := stepI_len (was := was) ps (stepI was d p)
    have h2 : (stepI was d p).length ≤ d.length + 1 := by
      unfold stepI
      split
      · exact aset_len _ _ _
      · omega
    simp only [List.foldl_cons, List.length_cons]
    omega
theorem stepW_keys {now : MM} {k : ByteArray} : ∀ (ps : MM) (d : MI), k ∈ akeys (ps.foldl (stepW now) d) → k ∈ akeys d ∨ k ∈ akeys ps
  | [], d, h => .inl h
  | p :: ps, d, h => by
    rcases stepW_keys ps _ h with h | h
    · unfold stepW at h
      have hs : ∀ v, k ∈ akeys (aset p.1 v d) → k ∈ akeys d ∨ k ∈ akeys (p :: ps) := fun v h => by
        rw [akeys_aset] at h
        split at h
        · exact .inl h
        · rcases List.mem_append.1 h with h | h
          · exact .inl h
          · exact .inr (by simp at h; simp [akeys, h])
      split at h
      · exact hs _ h
      · split at h
        · exact .inl h
        · exact hs _ h
    · exact .inr (by unfold akeys at h ⊢; simp only [List.map_cons, List.mem_cons]; exact .inr h)
theorem stepI_keys {was : MM} {k : ByteArray} : ∀ (ps : MM) (d : MI), k ∈ akeys (ps.foldl (stepI was) d) → k ∈ akeys d ∨ k ∈ akeys ps
  | [], d, h => .inl h
  | p :: ps, d, h => by
    rcases stepI_keys ps _ h with h | h
    · unfold stepI at h
      split at h
      · rw [akeys_aset] at h
        split at h
        · exact .inl h
        · rcases List.mem_append.1 h with h | h
          · exact .inl h
          · exact .inr (by simp at h; simp [akeys, h])
      · exact .inl h
    · exact .inr (by unfold akeys at h ⊢; simp only [List.map_cons, List.mem_cons]; exact .inr h)
/-- What Changes hands back: the names rise; each is told what there is to tell. -/
structure Chg (l0 l1 : List S46) (d : List S27) : Prop where
  rise : d.Pairwise (fun x y => x.f0.toList < y.f0.toList)
  mem : ∀ p : S27, p ∈ d ↔ whatO (mapOfM l0) (mapOfM l1) p.f0 = some p.f1
theorem rise_unique : ∀ {a b : List S27}, a.Pairwise (fun x y => x.f0.toList < y.f0.toList) → b.Pairwise (fun x y => x.f0.toList < y.f0.toList) → (∀ p, p ∈ a ↔ p ∈ b) → a = b
  | [], [], _, _, _ => rfl
  | [], y :: b, _, _, h => by have := (h y).2 (by simp); simp at this
  | x :: a, [], _, _, h => by have := (h x).1 (by simp); simp at this
  | x :: a, y :: b, ha, hb, h => by
    rw [List.pairwise_cons] at ha hb
    have hxy : x = y := by
      rcases List.mem_cons.1 ((h x).1 (by simp)) with e | e
      · exact e
      · rcases List.mem_cons.1 ((h y).2 (by simp)) with e2 | e2
        · exact e2.symm
        · exact absurd (List.lt_trans (ha.1 y e2) (hb.1 x e)) (List.lt_irrefl _)
    subst hxy
    rw [rise_unique ha.2 hb.2 (fun p => ?_)]
    have hp := h p
    simp only [List.mem_cons] at hp
    constructor
    · intro hm
      rcases hp.1 (.inr hm) with e | e
      · subst e; exact absurd (ha.1 p hm) (List.lt_irrefl _)
      · exact e
    · intro hm
      rcases hp.2 (.inr hm) with e | e
      · subst e; exact absurd (hb.1 p hm) (List.lt_irrefl _)
      · exact e
theorem Chg.unique {l0 l1 : List S46} {a b : List S27} (ha : Chg l0 l1 a) (hb : Chg l0 l1 b) : a = b := rise_unique ha.rise hb.rise (fun p => by rw [ha.mem, hb.mem])
theorem bytes_list (s : List UInt8) : (⟨s.toArray⟩ : ByteArray).toList = s := by rw [Lib.toList_data]
/-- The names of a map in their order, each with what is told of it. -/
theorem chg_of {l0 l1 : List S46} {D : MI} {ss : List (List UInt8)} (hD : ∀ k, aget k D = whatO (mapOfM l0) (mapOfM l1) k) (hn : (akeys D).Nodup) (hs : ss.Perm (D.map fun p => p.1.data.toList)) :
    Chg l0 l1 ((ss.mergeSort (fun x y => decide (x ≤ y))).map fun s => (⟨⟨s.toArray⟩, (aget ⟨s.toArray⟩ D).getD 0⟩ : S27)) := by
  have hnd : (D.map fun p => p.1.data.toList).Nodup := by
    have : (D.map fun p => p.1.data.toList) = (akeys D).map fun k => k.data.toList := by unfold akeys; rw [List.map_map]; rfl
    rw [this]
    exact List.Pairwise.map _ (fun a b hab e => hab (by
      refine data_inj ?_
      rw [Lib.toList_data, Lib.toList_data]
      exact e)) hn
  have hp := (List.mergeSort_perm ss (fun x y => decide (x ≤ y))).trans hs
  have hmem : ∀ s, s ∈ ss.mergeSort (fun x y => decide (x ≤ y)) ↔ ∃ p ∈ D, p.1.data.toList = s := fun s => by rw [hp.mem_iff, List.mem_map]
  have hso := List.pairwise_mergeSort (le := fun x y : List UInt8 => decide (x ≤ y)) (fun a b c h1 h2 => decide_eq_true (List.le_trans (of_decide_eq_true h1) (of_decide_eq_true h2))) (fun a b => by rcases List.le_total a b with h | h <;> simp [h]) ss
  have hnd2 : (ss.mergeSort (fun x y => decide (x ≤ y))).Nodup := hp.nodup_iff.2 hnd
  generalize ss.mergeSort (fun x y => decide (x ≤ y)) = SS at *
  refine ⟨?_, fun p => ?_⟩
  · rw [List.pairwise_map]
    have := hso.and (List.nodup_iff_pairwise_ne.1 hnd2)
    refine this.imp (fun {a b} hab => ?_)
    rw [bytes_list, bytes_list]
    have h1 := of_decide_eq_true hab.1
    refine Decidable.byContradiction fun hc => hab.2 (List.le_antisymm h1 (List.not_lt.1 hc))
  · rw [List.mem_map]
    constructor
    · rintro ⟨s, hsm, rfl⟩
      obtain ⟨q, hq, rfl⟩ := (hmem s).1 hsm
      have e : (⟨q.1.data.toList.toArray⟩ : ByteArray) = q.1 := rfl
      simp only [e]
      have := aget_of_mem hn (show (q.1, q.2) ∈ D from hq)
      rw [← hD, this]
      rfl
    · intro h
      rw [← hD] at h
      have hm := aget_mem h
      refine ⟨p.f0.data.toList, (hmem _).2 ⟨_, hm, rfl⟩, ?_⟩
      have e : (⟨p.f0.data.toList.toArray⟩ : ByteArray) = p.f0 := rfl
      simp only [e, h]
      rfl
theorem mapOfM_keys {l : List S46} {k : ByteArray} : k ∈ akeys (mapOfM l) ↔ ∃ x ∈ l, x.f0 = k := by
  have key : ∀ (l : List S46) (m : MM), k ∈ akeys (l.foldl (fun m x => aset x.f0 x m) m) ↔ k ∈ akeys m ∨ ∃ x ∈ l, x.f0 = k := by
    intro l
    induction l with
    | nil => simp
    | cons x l ih =>
      intro m
      rw [List.foldl_cons, ih, akeys_aset]
      simp only [List.mem_cons, exists_eq_or_imp]
      split
      · rename_i hx
        constructor
        · rintro (h | h)
          · exact .inl h
          · exact .inr (.inr h)
        · rintro (h | h | h)
          · exact .inl h
          · exact .inl (h ▸ hx)
          · exact .inr h
      · rw [List.mem_append, List.mem_singleton]
        constructor
        · rintro ((h | h) | h)
          · exact .inl h
          · exact .inr (.inl h.symm)
          · exact .inr (.inr h)
        · rintro (h | h | h)
          · exact .inl (.inl h)
          · exact .inl (.inr h.symm)
          · exact .inr h
  have := key l []
  simpa [mapOfM, akeys] using this
/-- What Changes hands back, computed. -/
def allS (l0 l1 : List S46) : MI := (akeys (mapOfM (l0 ++ l1))).filterMap fun k => (whatO (mapOfM l0) (mapOfM l1) k).map fun v => (k, v)
def changesS (l0 l1 : List S46) : List S27 := (((allS l0 l1).map fun p => p.1.data.toList).mergeSort (fun x y => decide (x ≤ y))).map fun s => (⟨⟨s.toArray⟩, (aget ⟨s.toArray⟩ (allS l0 l1)).getD 0⟩ : S27)
theorem changesS_is (l0 l1 : List S46) : Chg l0 l1 (changesS l0 l1) := by
  have hn : (akeys (allS l0 l1)).Nodup := by
    have : akeys (allS l0 l1) = (akeys (mapOfM (l0 ++ l1))).filter (fun k => (whatO (mapOfM l0) (mapOfM l1) k).isSome) := by
      unfold allS
      generalize akeys (mapOfM (l0 ++ l1)) = K
      induction K with
      | nil => rfl
      | cons k K ih =>
        unfold akeys at ih ⊢
        rw [List.filterMap_cons, List.filter_cons]
        cases whatO (mapOfM l0) (mapOfM l1) k with
        | none => simpa using ih
        | some v => simpa using ih
    rw [this]
    exact (mapOfM_nodup _).sublist List.filter_sublist
  refine chg_of (fun k => ?_) hn (List.Perm.refl _)
  have hin : whatO (mapOfM l0) (mapOfM l1) k ≠ none → k ∈ akeys (mapOfM (l0 ++ l1)) := by
    intro h
    rw [mapOfM_keys]
    unfold whatO at h
    have h0 : ∀ l : List S46, aget k (mapOfM l) ≠ none → ∃ x ∈ l, x.f0 = k := fun l hl => mapOfM_keys.1 (Classical.byContradiction fun hc => hl (aget_none_iff.2 hc))
    cases ha : aget k (mapOfM l0) with
    | some a =>
      obtain ⟨x, hx, e⟩ := h0 l0 (by rw [ha]; simp)
      exact ⟨x, List.mem_append_left _ hx, e⟩
    | none =>
      cases hb : aget k (mapOfM l1) with
      | some b =>
        obtain ⟨x, hx, e⟩ := h0 l1 (by rw [hb]; simp)
        exact ⟨x, List.mem_append_right _ hx, e⟩
      | none =>
        rw [ha, hb] at h
        exact absurd rfl h
  apply Option.ext
  intro v
  constructor
  · intro hv
    have := aget_mem hv
    unfold allS at this
    obtain ⟨k', hk', e⟩ := List.mem_filterMap.1 this
    obtain ⟨u, hu, e2⟩ := Option.map_eq_some_iff.1 e
    injection e2 with e3 e4
    rw [← e3, ← e4]
    exact hu
  · intro hv
    refine aget_of_mem hn ?_
    unfold allS
    exact List.mem_filterMap.2 ⟨k, hin (by rw [hv]; simp), by rw [hv]; rfl⟩
theorem zeroM (w : World) : (zeroValue 46).run Tryz.prog w = .ok (encM z46) w := by kernel_rfl
theorem zeroI (w : World) : (zeroValue 3).run Tryz.prog w = .ok (encI 0) w := by kernel_rfl
theorem ch.otherCall (a b : S46) (w : World) : Calls Tryz.prog 15 #[encM a, encM b] w fun e w' => e = .returned (.int .i64 (otherS a b)) ∧ Below w.heap.size w w' :=
  compare_other.calls 2 _ _ _ _ _ _ _ _ _ _ _ _ _ _ _ _ _ _ _ _ _ w (other_f a b)
set_option maxHeartbeats 8000000 in
set_option maxRecDepth 100000 in
theorem ch.changes (A0 A1 : Option Addr) (c0 c1 : Nat) (l0 l1 : List S46) (w : World) (hr0 : Kd.C k46 w A0 l0.length l0) (hr1 : Kd.C k46 w A1 l1.length l1) (hc0 : l0.length ≤ c0) (hc1 : l1.length ≤ c1) (hl : l0.length + l1.length ≤ 1099511627776) (hz : ∀ x ∈ l0 ++ l1, x.f0.size ≤ maxLen) :
    Calls Tryz.prog 6 #[.slice A0 l0.length c0, .slice A1 l1.length c1] w fun e w' => ∃ (v : Value) (d : List S27), e = .returned v ∧ Kd.R k27 27 w' w.heap.size (fun _ => True) v d ∧ Chg l0 l1 d ∧ Below w.heap.size w w' := by
  have HL := Aside0.mk hl
  have HR0 := Aside0.mk hr0
  have HR1 := Aside0.mk hr1
  have HZ := Aside0.mk hz
  clear hr0 hr1 hl hz
  have hmm := @run_makeMap Tryz.prog
  go_enter Tryz.func6, Tryz.ntmps6
  go_wp2_with fail
  refine (ch.last A0 c0 l0 w HR0.out (by have := HL.out; omega)).mono ?_
  rintro e w1 ⟨rfl, hM0, hB1⟩
  have HM0 := Aside0.mk hM0
  have HB1 := Aside0.mk hB1
  clear hM0 hB1
  go_wp2_with fail
  refine (ch.last A1 c1 l1 w1 (Kd.C_below HR1.out HB1.out) (by have := HL.out; omega)).mono ?_
  rintro e w2 ⟨rfl, hM1, hB2⟩
  have hsz1 : w.heap.size < w1.heap.size := HM0.out.lt
  have hsz2 : w1.heap.size < w2.heap.size := hM1.lt
  have HM0b := Aside0.mk (show MapAt keyStr encM w2 w.heap.size (mapOfM l0) from HM0.out.of_block (hB2.block _ hsz1))
  have HM1 := Aside0.mk hM1
  have HB2 := Aside0.mk (show Below w.heap.size w w2 from HB1.out.trans (hB2.mono (by omega)))
  clear HM0 HB1 hB2 hM1
  have hmm := @run_makeMap Tryz.prog
  have hs3 : (w2.alloc (.map #[] 0)).heap.size = w2.heap.size + 1 := by simp
  have hM0c : MapAt keyStr encM (w2.alloc (.map #[] 0)) w.heap.size (mapOfM l0) := HM0b.out.of_block (Below.heap_alloc _ _ _ (by omega))
  have hM1c : MapAt keyStr encM (w2.alloc (.map #[] 0)) w1.heap.size (mapOfM l1) := HM1.out.of_block (Below.heap_alloc _ _ _ (by omega))
  have hM2 : MapAt keyStr encI (w2.alloc (.map #[] 0)) w2.heap.size ([] : MI) := MapAt.made w2
  have hB3 := below_alloc HB2.out (.map #[] 0)
  -- the range over what was
  obtain ⟨es, clock, hes, hE, hold, hnd⟩ := hM0c
  have hesz : es.size ≤ l0.length := by have h1 := hE.len; have h2 := mapOfM_len l0; rw [Array.length_toList] at h1; omega
  have hrg := run_range_map (P := Tryz.prog) (w2.alloc (.map #[] 0)) 56 9 46 w.heap.size es clock Tryz.underlying56 hes
  rw [hs3] at hrg
  have H6 := Aside0.mk (show ((w2.alloc (.map #[] 0)).alloc (.mapIter (some w.heap.size) clock #[] clock)).heap[w.heap.size]? = some (.map es clock) from (Below.heap_alloc _ _ _ (by omega)).trans hes)
  have H7 := Aside0.mk (show ((w2.alloc (.map #[] 0)).alloc (.mapIter (some w.heap.size) clock #[] clock)).heap[w2.heap.size + 1]? = some (.mapIter (some w.heap.size) clock #[] clock) from hs3 ▸ Go.heap_alloc_new _ _)
  have HB6 := Aside0.mk (below_alloc hB3 (.mapIter (some w.heap.size) clock #[] clock))
  have HM1d := Aside0.mk (hM1c.of_block (w' := (w2.alloc (.map #[] 0)).alloc (.mapIter (some w.heap.size) clock #[] clock)) (Below.heap_alloc _ _ _ hM1c.lt))
  have HM2d := Aside0.mk (hM2.of_block (w' := (w2.alloc (.map #[] 0)).alloc (.mapIter (some w.heap.size) clock #[] clock)) (Below.heap_alloc _ _ _ hM2.lt))
  have HE := Aside0.mk hE
  have HESZ := Aside0.mk hesz
  have HOLD := Aside0.mk hold
  have HND := Aside0.mk hnd
  have HS5 := Aside0.mk (show ((w2.alloc (.map #[] 0)).alloc (.mapIter (some w.heap.size) clock #[] clock)).heap.size = w2.heap.size + 2 by simp)
  have HS1 := Aside0.mk hsz1
  have HS2 := Aside0.mk hsz2
  clear hes hE hold hnd hesz hM1c hM2 hB3 hs3 HM0b HM1 HB2 hsz1 hsz2
  go_wp2_with fail
  generalize (w2.alloc (.map #[] 0)).alloc (.mapIter (some w.heap.size) clock #[] clock) = W5 at H6 H7 HB6 HM1d HM2d HS5 hrg ⊢
  generalize w1.heap.size = b1 at HS1 HS2 HM1d ⊢
  generalize w2.heap.size = b2 at HS2 HM2d H7 HS5 hrg ⊢
  clear hrg hmm w1 
  go_loopw [] (fun w6 => ∃ (seen : Array Nat) (cc : Nat) (ps : MM), Aside0 (w6.heap[b2 + 1]? = some (.mapIter (some w.heap.size) clock seen cc)) ∧ Aside0 (clock ≤ cc) ∧ Aside0 (w6.heap[w.heap.size]? = some (.map es clock)) ∧ Aside0 (Below w.heap.size w w6) ∧ Aside0 (MapAt keyStr encM w6 b1 (mapOfM l1)) ∧ Aside0 (MapAt keyStr encI w6 b2 (ps.foldl (stepW (mapOfM l1)) [])) ∧ Aside0 (PSr (mapOfM l0) es.toList ps seen) ∧ Aside0 (b2 + 1 < w6.heap.size) ∧ Aside0 (ps.length + (leftOf es seen).size ≤ es.size)) (fun w6 => leftAt (b2 + 1) es w6)
  case atStart => exact ⟨#[], clock, [], H7, ⟨Nat.le_refl _⟩, H6, HB6, HM1d, HM2d, ⟨⟨by simp, by simp, by simp⟩⟩, ⟨by have := HS5.out; omega⟩, ⟨by simp only [List.length_nil, Nat.zero_add, leftOf]; exact Array.size_filter_le⟩⟩
  case round =>
    clear H6 H7 HB6 HM1d HM2d HS5
    obtain ⟨seen, cc, ps, H7, HCC, H6, HB, HM1, HM2, HP, HLT, HN⟩ := hrel
    rcases run_next_at (P := Tryz.prog) wr 0 (b2 + 1) w.heap.size clock cc seen es clock H7.out H6.out HOLD.out HCC.out with ⟨hleft, hnext⟩ | ⟨e, he, w7, hw7, hnext⟩
    · have hseen := all_seen es seen hleft
      have hpe := ps_end HE.out (mapOfM_nodup l0) HP.out hseen
      have HPE := Aside0.mk hpe
      have HPN := Aside0.mk HP.out.nodup
      have HPL := Aside0.mk (show ps.length ≤ l0.length by have := HN.out; have := HESZ.out; omega)
      obtain ⟨D1, hD1⟩ : ∃ D1, D1 = ps.foldl (stepW (mapOfM l1)) [] := ⟨_, rfl⟩
      rw [← hD1] at HM2
      have HD1 := Aside0.mk hD1
      have HM0 := Aside0.mk (show MapAt keyStr encM wr w.heap.size (mapOfM l0) from ⟨es, clock, H6.out, HE.out, HOLD.out, HND.out⟩)
      have HL1 := HLT.out
      have hS1 := HS1.out
      have hS2 := HS2.out
      clear hD1 hpe hseen hleft H6 H7 HCC HP HN HE HESZ HOLD HND HLT
      -- the range over what is
      obtain ⟨es, clock, hes, hE, hold, hnd⟩ := HM1.out
      have hesz : es.size ≤ l1.length := by have h1 := hE.len; have h2 := mapOfM_len l1; rw [Array.length_toList] at h1; omega
      have hrg := run_range_map (P := Tryz.prog) wr 56 9 46 b1 es clock Tryz.underlying56 hes
      have H6 := Aside0.mk (show (wr.alloc (.mapIter (some b1) clock #[] clock)).heap[b1]? = some (.map es clock) from (Below.heap_alloc _ _ _ (by omega)).trans hes)
      have H7 := Aside0.mk (show (wr.alloc (.mapIter (some b1) clock #[] clock)).heap[wr.heap.size]? = some (.mapIter (some b1) clock #[] clock) from Go.heap_alloc_new _ _)
      have HB6 := Aside0.mk (below_alloc HB.out (.mapIter (some b1) clock #[] clock))
      have HM06 := Aside0.mk (HM0.out.of_block (w' := wr.alloc (.mapIter (some b1) clock #[] clock)) (Below.heap_alloc _ _ _ HM0.out.lt))
      have HM26 := Aside0.mk (HM2.out.of_block (w' := wr.alloc (.mapIter (some b1) clock #[] clock)) (Below.heap_alloc _ _ _ HM2.out.lt))
      have HE := Aside0.mk hE
      have HESZ := Aside0.mk hesz
      have HOLD := Aside0.mk hold
      have HND := Aside0.mk hnd
      have HS5 := Aside0.mk (show (wr.alloc (.mapIter (some b1) clock #[] clock)).heap.size = wr.heap.size + 1 by simp)
      have HRJ := Aside0.mk (show b2 < wr.heap.size by omega)
      clear hes hE hold hnd hesz HM0 HM1 HM2 HB HL1 hS1 hS2
      go_wp2_with fail
      generalize wr.alloc (.mapIter (some b1) clock #[] clock) = W5 at H6 H7 HB6 HM06 HM26 HS5 hrg ⊢
      generalize wr.heap.size = rJ at H7 HS5 HRJ hrg ⊢
      clear hrg hnext
      go_loopw [] (fun w6 => ∃ (seen : Array Nat) (cc : Nat) (qs : MM), Aside0 (w6.heap[rJ]? = some (.mapIter (some b1) clock seen cc)) ∧ Aside0 (clock ≤ cc) ∧ Aside0 (w6.heap[b1]? = some (.map es clock)) ∧ Aside0 (Below w.heap.size w w6) ∧ Aside0 (MapAt keyStr encM w6 w.heap.size (mapOfM l0)) ∧ Aside0 (MapAt keyStr encI w6 b2 (qs.foldl (stepI (mapOfM l0)) D1)) ∧ Aside0 (PSr (mapOfM l1) es.toList qs seen) ∧ Aside0 (rJ < w6.heap.size) ∧ Aside0 (qs.length + (leftOf es seen).size ≤ es.size)) (fun w6 => leftAt rJ es w6)
      case atStart => exact ⟨#[], clock, [], H7, ⟨Nat.le_refl _⟩, H6, HB6, HM06, HM26, ⟨⟨by simp, by simp, by simp⟩⟩, ⟨by have := HS5.out; omega⟩, ⟨by simp only [List.length_nil, Nat.zero_add, leftOf]; exact Array.size_filter_le⟩⟩
      case round =>
        clear H6 H7 HB6 HM06 HM26 HS5
        obtain ⟨seen, cc, qs, H7, HCC, H6, HB, HM0, HM2, HP, HLT, HN⟩ := hrel
        rcases run_next_at (P := Tryz.prog) wr 0 rJ b1 clock cc seen es clock H7.out H6.out HOLD.out HCC.out with ⟨hleft, hnext⟩ | ⟨e, he, w7, hw7, hnext⟩
        · have hseen := all_seen es seen hleft
          have hqe := ps_end HE.out (mapOfM_nodup l1) HP.out hseen
          have hQL : qs.length ≤ l1.length := by have := HN.out; have := HESZ.out; omega
          obtain ⟨D2, hD2⟩ : ∃ D2, D2 = qs.foldl (stepI (mapOfM l0)) D1 := ⟨_, rfl⟩
          have hDn : (akeys D2).Nodup := by rw [hD2, HD1.out]; exact stepI_nodup _ _ (stepW_nodup _ _ (by simp [akeys]))
          have hDl : D2.length ≤ l0.length + l1.length := by
            have h1 := stepI_len (was := mapOfM l0) qs D1
            have h2 := stepW_len (now := mapOfM l1) ps []
            rw [← HD1.out] at h2
            rw [← hD2] at h1
            have := HPL.out
            simp only [List.length_nil] at h2
            omega
          have hDk : ∀ p ∈ D2, p.1.size ≤ maxLen := fun p hp => by
            have hk : p.1 ∈ akeys D2 := List.mem_map.2 ⟨p, hp, rfl⟩
            rw [hD2] at hk
            have fin : ∀ (q : ByteArray × S46) (l : List S46), q ∈ mapOfM l → (∀ x ∈ l, x ∈ l0 ++ l1) → q.1 = p.1 → p.1.size ≤ maxLen := fun q l hq hl e => by
              obtain ⟨h1, h2⟩ := mapOfM_mem hq
              rw [← e, h2]
              exact HZ.out _ (hl _ h1)
            rcases stepI_keys qs D1 hk with hk | hk
            · rw [HD1.out] at hk
              rcases stepW_keys ps [] hk with hk | hk
              · simp [akeys] at hk
              · obtain ⟨q, hq, e⟩ := List.mem_map.1 hk
                exact fin q l0 ((HPE.out q).1 hq) (fun x hx => List.mem_append_left _ hx) e
            · obtain ⟨q, hq, e⟩ := List.mem_map.1 hk
              exact fin q l1 ((hqe q).1 hq) (fun x hx => List.mem_append_right _ hx) e
          have hDw : ∀ k, aget k D2 = whatO (mapOfM l0) (mapOfM l1) k := fun k => by
            rw [hD2, HD1.out]
            exact folds HPN.out HP.out.nodup (mapOfM_nodup l0) (mapOfM_nodup l1) HPE.out hqe k
          rw [← hD2] at HM2
          obtain ⟨D0, hown, hperm, hsize⟩ := ch_own_of_map (H := Unit) HM2.out hDn (by have := HL.out; unfold maxLen; omega) hDk
          have HDN := Aside0.mk hDn
          have HDL := Aside0.mk hDl
          have HDW := Aside0.mk hDw
          have HOWN := Aside0.mk hown
          have HPERM := Aside0.mk hperm
          have HSIZE := Aside0.mk hsize
          clear hDk hDw hDl hDn hqe hseen hleft hown hperm hsize hD2 hQL
          go_wp2_with fail
          refine (callsIn_wide.1 (Tryz.maps_Keys_17 _ _)).mono ?_
          rintro e3 w3 ⟨rfl, rfl⟩
          go_wp2_with fail
          refine (callsIn_wide.1 (Tryz.slices_Sorted_keys_16_17 b2 _ D0 _ wr HOWN.out (by rw [HSIZE.out]; have := HDL.out; have := HL.out; unfold maxLen; omega) (by rw [HSIZE.out]; have := HDL.out; have := HL.out; omega))).mono ?_
          rintro e4 w4 ⟨v, ss, rfl, hS, hrow, hnil, hb⟩
          have hsz4 : wr.heap.size < w4.heap.size := by have := hb.size; simp at this; omega
          have HM4 := Aside0.mk (HM2.out.of_block (w' := w4) ((hb.block _ (by have := HM2.out.lt; simp; omega)).trans (Below.heap_alloc _ _ _ HM2.out.lt)))
          have HB4 := Aside0.mk (show Below w.heap.size w w4 from (below_alloc HB.out _).trans (hb.mono (by have := below_size HB.out; simp; omega)))
          obtain ⟨SS, hSS⟩ : ∃ SS, SS = ss.mergeSort (fun x y => decide (x ≤ y)) := ⟨_, rfl⟩
          rw [← hSS] at hrow
          have hchg := chg_of (l0 := l0) (l1 := l1) HDW.out HDN.out (hS.trans HPERM.out)
          rw [← hSS] at hchg
          have hlen : ss.length = SS.length := by rw [hSS, List.length_mergeSort]
          have hlen2 : SS.length ≤ l0.length + l1.length := by rw [← hlen, (hS.trans HPERM.out).length_eq, List.length_map]; exact HDL.out
          rw [hlen] at hrow
          obtain ⟨NS, hNS⟩ : ∃ NS : List ByteArray, NS = SS.map (fun s => (⟨s.toArray⟩ : ByteArray)) := ⟨_, rfl⟩
          have hNl : NS.length = SS.length := by rw [hNS, List.length_map]
          have hrow2 : w4.ownsRow (wr.heap.size + 1) 9 1 v NS.length (encs Value.string NS) := by
            have e1 : encs Value.string NS = SS.map encStr := by rw [hNS]; unfold encs; rw [List.map_map]; rfl
            rw [e1, hNl]
            simpa using hrow
          obtain ⟨OUT, hOUT⟩ : ∃ OUT : List S27, OUT = NS.map (fun s => (⟨s, (aget s D2).getD 0⟩ : S27)) := ⟨_, rfl⟩
          have hchg2 : Chg l0 l1 OUT := by rw [hOUT, hNS, List.map_map]; exact hchg
          have hR4 : Kd.string.R 9 w4 (wr.heap.size + 1) (fun _ => True) v NS := Kd.R_of_own hrow2 (fun _ _ => trivial)
          obtain ⟨A5, c5, rfl⟩ := Kd.R_slice hR4
          have HR5 := Aside0.mk (Kd.R_reads' hR4)
          have HCHG := Aside0.mk hchg2
          have HNL := Aside0.mk (show NS.length ≤ l0.length + l1.length by omega)
          have HOUT := Aside0.mk hOUT
          have HOL := Aside0.mk (show OUT.length = NS.length by rw [hOUT, List.length_map])
          have HW4 := Aside0.mk hsz4
          clear hS hrow hnil hb hSS hchg hlen hlen2 hNS hNl hrow2 hOUT hchg2 hR4 hsz4 hnext
          clear SS ss
          go_wp2_with fail
          go_loopw [16, 69] (fun v16 v69 w5 => ∃ i : Nat, v69 = .int .i64 (i : Int) ∧ Aside0 (i ≤ NS.length) ∧ Aside0 (Kd.R k27 27 w5 w4.heap.size (fun _ => True) v16 (OUT.take i)) ∧ Aside0 (Below w4.heap.size w4 w5)) (fun v16 v69 w5 => NS.length - (intOf v69).toNat)
          case atStart => exact ⟨0, rfl, ⟨by omega⟩, ⟨Kd.R_nil _ _ _ _ _⟩, ⟨Below.refl _ _⟩⟩
          case round =>
            obtain ⟨i, rfl, HI, HO, HB5⟩ := hrel
            by_cases hlt : i < NS.length
            · have q0 : decide ((i : Int) < (NS.length : Int)) = true := decide_eq_true (by omega)
              have q1 : decide (i < NS.length) = true := decide_eq_true hlt
              have q2 : ((i : Int) < (NS.length : Int)) = True := eq_true (by omega)
              have q3 : (i < NS.length) = True := eq_true hlt
              obtain ⟨ad, cs, eA, _, hK, hcell⟩ := Kd.C_get (Kd.C_below HR5.out.2.2 HB5.out) (⟨#[]⟩ : ByteArray) (i : Int) (by omega) (by omega)
              obtain ⟨s, hs⟩ : ∃ s, s = NS.getD ((i : Int).toNat) (⟨#[]⟩ : ByteArray) := ⟨_, rfl⟩
              rw [← hs] at hK
              have hK2 : cs = [.string s] := hK
              have x0 : wr.cell? (ad.add i) = some (.string s) := by
                have := hcell 0 (.string s) (by rw [hK2]; rfl)
                have e : (i : Int).toNat * Kd.string.sz + 0 = i := by show (i : Int).toNat * 1 + 0 = i; omega
                rwa [e] at this
              have hsi : NS[i] = s := by rw [hs]; simp [hlt]
              have hM5 : MapAt keyStr encI wr b2 D2 := HM4.out.of_block (HB5.out.block _ HM4.out.lt)
              have hlook := hM5.look (P := Tryz.prog) (t := 58) (kt := 9) (et := 3) Tryz.underlying58 Tryz.underlying9 (zeroI _) s false
              obtain ⟨n, hn⟩ : ∃ n, n = (aget s D2).getD 0 := ⟨_, rfl⟩
              have hval : ((aget s D2).map encI).getD (encI 0) = .int .i64 n := by rw [hn]; cases aget s D2 <;> rfl
              have hlook' : (Instr.lookup 58 (.map (some b2)) (.string s) false).run Tryz.prog wr = .ok (.int .i64 n) wr := by
                rw [← hval]
                exact hlook
              have hout : OUT.take (i + 1) = OUT.take i ++ [(⟨s, n⟩ : S27)] := by
                have hl2 : i < OUT.length := by rw [HOL.out]; exact hlt
                rw [List.take_succ_eq_append_getElem hl2]
                congr 2
                have : OUT[i] = (⟨NS[i], (aget NS[i] D2).getD 0⟩ : S27) := by
                  have h := HOUT.out
                  subst h
                  rw [List.getElem_map]
                rw [this, hsi, hn]
              have HOT := Aside0.mk hout
              have HLT := Aside0.mk hlt
              have hwi : IntKind.i64.wrap ((i : Int) + 1) = ((i + 1 : Nat) : Int) := by rw [IntWalk.i64_in _ (by have := HL.out; have := HNL.out; omega)]; omega
              cases eA
              clear hK hK2 hcell hs hsi hM5 hlook hn hval hout hlt
              go_wp2_with ((with_reducible refine gate_builtin (b := .append) (xs := #[.tmp 73, .tmp 79]) rfl ?_); at_builtin; refine Kd.R_append k27 (w0 := w4) w4.heap.size rfl (.tmp 73) (.tmp 79) 24 27 (.agg #[(.string ⟨#[]⟩), (.int .i64 0)]) 24 rfl Tryz.underlying24 infoDiff_ rfl (by decide) (by omega) u16 (OUT.take i) (⟨s, n⟩ : S27) [.string s, .int .i64 n] (fun _ => True) (fun _ => False) rfl rfl (k27_mkM _ _ _ (⟨s, n⟩ : S27)) (fun _ hk => hk.elim) (fun _ _ => trivial) HO.out HB5.out HB5.out.size (by have := HL.out; have := HNL.out; have := HLT.out; have := List.length_take_le i OUT; omega) ?_; intro v9 w9 ho hb9 hg9 hat9; have HO9 := Aside0.mk ho; have HB9 := Aside0.mk hb9; clear ho hb9 hg9 hat9)
              exact ⟨⟨i + 1, rfl, ⟨HLT.out⟩, ⟨by rw [HOT.out]; exact HO9.out⟩, HB9⟩, by have := HLT.out; simp [intOf]; omega⟩
            · have q0 : decide ((i : Int) < (NS.length : Int)) = false := decide_eq_false (by omega)
              have q1 : decide (i < NS.length) = false := decide_eq_false hlt
              have HO2 := Aside0.mk (show Kd.R k27 27 wr w4.heap.size (fun _ => True) u16 OUT by
                have := HO.out
                rwa [List.take_of_length_le (by rw [HOL.out]; omega)] at this)
              clear hlt
              go_wp2_with fail
              go_ret
              exact ⟨_, OUT, rfl, Kd.R_lower HO2.out (below_size HB4.out), HCHG.out, HB4.out.trans (HB5.out.mono (below_size HB4.out))⟩
        · have hmem := mem_left he
          have hsh := left_shrinks es seen e he
          obtain ⟨p, hp, hk, hv⟩ := ch_es_mem HE.out e hmem.1
          have hb7 : w7.heap = wr.heap := by rcases hw7 with rfl | rfl <;> rfl
          have hB7 : Below w.heap.size w w7 := by rcases hw7 with rfl | rfl; exact HB.out; exact HB.out.drew
          have hr7 : w7.heap[rJ]? = some (.mapIter (some b1) clock seen cc) := by rw [hb7]; exact H7.out
          have hT := turned_setBlock (w := w7) (o' := .mapIter (some b1) clock (seen.push e.born) clock) hr7
          have hset := heap_setBlock (w := w7) (o' := .mapIter (some b1) clock (seen.push e.born) clock) hr7
          have hS1 := HS1.out
          have hS2 := HS2.out
          have hRJ := HRJ.out
          have hes8 : (ChangeMaps.setBlock w7 rJ (.mapIter (some b1) clock (seen.push e.born) clock)).heap[b1]? = some (.map es clock) := by rw [hT.block _ (by omega), hb7]; exact H6.out
          have hent := run_entry_at (P := Tryz.prog) _ rJ b1 clock seen es clock e hset hes8 hmem.1 HND.out
          rw [hk, hv] at hnext hent
          have HPS := Aside0.mk (ps_step HE.out (mapOfM_nodup l1) HND.out HP.out hmem.1 hmem.2 hk (q := p) hp)
          have HM08 := Aside0.mk (HM0.out.of_block (w' := ChangeMaps.setBlock w7 rJ (.mapIter (some b1) clock (seen.push e.born) clock)) (by rw [hT.block _ (by omega), hb7]))
          have HM28 := Aside0.mk (HM2.out.of_block (w' := ChangeMaps.setBlock w7 rJ (.mapIter (some b1) clock (seen.push e.born) clock)) (by rw [hT.block _ (by omega), hb7]))
          have HB8 := Aside0.mk (hB7.grown (turned_grown hT) (by rw [hb7]; have := HLT.out; omega) (fun k e2 => by cases e2; omega))
          have HZ8 := Aside0.mk (show (ChangeMaps.setBlock w7 rJ (.mapIter (some b1) clock (seen.push e.born) clock)).heap.size = wr.heap.size by rw [hT.size, hb7])
          have HSET := Aside0.mk hset
          have HES8 := Aside0.mk hes8
          have HSH := Aside0.mk hsh
          have HLE := Aside0.mk (show leftAt rJ es wr = (leftOf es seen).size by unfold leftAt; rw [H7.out])
          clear hmem hsh hk hv hw7 hb7 hB7 hr7 hT hset hes8 he hp hS1 hS2 hRJ
          generalize ChangeMaps.setBlock w7 rJ (.mapIter (some b1) clock (seen.push e.born) clock) = w8 at *
          obtain ⟨k, x⟩ := p
          dsimp only at hnext hent HPS
          have hnext' : (Instr.next (.pointer (some ⟨rJ, 0, none⟩)) false 0).run Tryz.prog wr = .ok (.tuple #[.bool true, .string k, .agg #[.string x.f0, .int .i64 x.f1, .int .u32 x.f2.f0, .int .u32 x.f2.f1, .int .u32 x.f2.f2, .int .i64 x.f2.f3, .int .i32 x.f2.f4, .int .i64 x.f3, .int .u64 x.f4, .string x.f5]]) w8 := hnext
          have hent' : (Instr.entry (.pointer (some ⟨rJ, 0, none⟩))).run Tryz.prog w8 = .ok (.tuple #[.string k, .agg #[.string x.f0, .int .i64 x.f1, .int .u32 x.f2.f0, .int .u32 x.f2.f1, .int .u32 x.f2.f2, .int .i64 x.f2.f3, .int .i32 x.f2.f4, .int .i64 x.f3, .int .u64 x.f4, .string x.f5]]) w8 := hent
          clear hnext hent
          have hlook := HM08.out.look (P := Tryz.prog) (t := 56) (kt := 9) (et := 46) Tryz.underlying56 Tryz.underlying9 (zeroM _) k true
          cases hag : aget k (mapOfM l0) with
          | none =>
            rw [hag] at hlook
            have hlook' : (Instr.lookup 56 (.map (some w.heap.size)) (.string k) true).run Tryz.prog w8 = .ok (.tuple #[.agg #[.string ⟨#[]⟩, .int .i64 0, .int .u32 0, .int .u32 0, .int .u32 0, .int .i64 0, .int .i32 0, .int .i64 0, .int .u64 0, .string ⟨#[]⟩], .bool false]) w8 := hlook
            have hM2a := HM28.out.of_block (w' := w8.alloc (.cells #[.string ⟨#[]⟩, .int .i64 0, .int .u32 0, .int .u32 0, .int .u32 0, .int .i64 0, .int .i32 0, .int .i64 0, .int .u64 0, .string ⟨#[]⟩] 46)) (Below.heap_alloc _ _ _ HM28.out.lt)
            obtain ⟨wa, hput, hMa, hTa⟩ := hM2a.put (P := Tryz.prog) (t := 58) (kt := 9) (et := 3) Tryz.underlying58 Tryz.underlying9 k (1 : Int)
            have hput' : (Instr.mapUpdate 58 (.map (some b2)) (.string k) (.int .i64 1)).run Tryz.prog (w8.alloc (.cells #[.string ⟨#[]⟩, .int .i64 0, .int .u32 0, .int .u32 0, .int .u32 0, .int .i64 0, .int .i32 0, .int .i64 0, .int .u64 0, .string ⟨#[]⟩] 46)) = .ok () wa := hput
            have HMa := Aside0.mk hMa
            have HTa := Aside0.mk (turned_grown hTa)
            have HAG := Aside0.mk hag
            clear hlook hput hMa hTa hM2a hag
            go_wp2_with fail
            have hfo : (qs ++ [(k, x)]).foldl (stepI (mapOfM l0)) D1 = aset k 1 (qs.foldl (stepI (mapOfM l0)) D1) := by rw [List.foldl_append]; simp [stepI, HAG.out]
            have hS1 := HS1.out
            have hS2 := HS2.out
            have hRJ := HRJ.out
            have hL := HLT.out
            have hZ8 := HZ8.out
            have hza : (w8.alloc (.cells #[.string ⟨#[]⟩, .int .i64 0, .int .u32 0, .int .u32 0, .int .u32 0, .int .i64 0, .int .i32 0, .int .i64 0, .int .u64 0, .string ⟨#[]⟩] 46)).heap.size = w8.heap.size + 1 := by simp
            have keep : ∀ i, i < w8.heap.size → i ≠ b2 → wa.heap[i]? = w8.heap[i]? := fun i hi hne => (HTa.out.block i (by omega) (fun e2 => hne (by cases e2; rfl))).trans (Below.heap_alloc _ _ _ hi)
            exact ⟨⟨_, _, qs ++ [(k, x)], ⟨(keep _ (by omega) (by omega)).trans HSET.out⟩, ⟨Nat.le_refl _⟩, ⟨(keep _ (by omega) (by omega)).trans HES8.out⟩, ⟨(below_alloc HB8.out _).grown HTa.out (by have := below_size HB8.out; omega) (fun k e2 => by cases e2; omega)⟩, ⟨HM08.out.of_block (keep _ (by omega) (by omega))⟩, ⟨by rw [hfo]; exact HMa.out⟩, HPS, ⟨by have := HTa.out.size; omega⟩, ⟨by have := HN.out; have := HSH.out; simp only [List.length_append, List.length_singleton]; omega⟩⟩, by rw [HLE.out]; unfold leftAt; rw [(keep _ (by omega) (by omega)).trans HSET.out]; exact HSH.out⟩
          | some n =>
            rw [hag] at hlook
            have hlook' : (Instr.lookup 56 (.map (some w.heap.size)) (.string k) true).run Tryz.prog w8 = .ok (.tuple #[.agg #[.string n.f0, .int .i64 n.f1, .int .u32 n.f2.f0, .int .u32 n.f2.f1, .int .u32 n.f2.f2, .int .i64 n.f2.f3, .int .i32 n.f2.f4, .int .i64 n.f3, .int .u64 n.f4, .string n.f5], .bool true]) w8 := hlook
            have HAG := Aside0.mk hag
            clear hlook hag
            go_wp2_with fail
            have hfo : (qs ++ [(k, x)]).foldl (stepI (mapOfM l0)) D1 = qs.foldl (stepI (mapOfM l0)) D1 := by rw [List.foldl_append]; simp [stepI, HAG.out]
            have hS1 := HS1.out
            have hS2 := HS2.out
            have hRJ := HRJ.out
            have hL := HLT.out
            have hZ8 := HZ8.out
            have keep : ∀ i, i < w8.heap.size → (w8.alloc (.cells #[.string n.f0, .int .i64 n.f1, .int .u32 n.f2.f0, .int .u32 n.f2.f1, .int .u32 n.f2.f2, .int .i64 n.f2.f3, .int .i32 n.f2.f4, .int .i64 n.f3, .int .u64 n.f4, .string n.f5] 46)).heap[i]? = w8.heap[i]? := fun i hi => Below.heap_alloc _ _ _ hi
            exact ⟨⟨_, _, qs ++ [(k, x)], ⟨(keep _ (by omega)).trans HSET.out⟩, ⟨Nat.le_refl _⟩, ⟨(keep _ (by omega)).trans HES8.out⟩, ⟨below_alloc HB8.out _⟩, ⟨HM08.out.of_block (keep _ (by omega))⟩, ⟨by rw [hfo]; exact HM28.out.of_block (keep _ (by omega))⟩, HPS, ⟨by simp; omega⟩, ⟨by have := HN.out; have := HSH.out; simp only [List.length_append, List.length_singleton]; omega⟩⟩, by rw [HLE.out]; unfold leftAt; rw [(keep _ (by omega)).trans HSET.out]; exact HSH.out⟩
    · have hmem := mem_left he
      have hsh := left_shrinks es seen e he
      obtain ⟨p, hp, hk, hv⟩ := ch_es_mem HE.out e hmem.1
      have hb7 : w7.heap = wr.heap := by rcases hw7 with rfl | rfl <;> rfl
      have hB7 : Below w.heap.size w w7 := by rcases hw7 with rfl | rfl; exact HB.out; exact HB.out.drew
      have hr7 : w7.heap[b2 + 1]? = some (.mapIter (some w.heap.size) clock seen cc) := by rw [hb7]; exact H7.out
      have hT := turned_setBlock (w := w7) (o' := .mapIter (some w.heap.size) clock (seen.push e.born) clock) hr7
      have hset := heap_setBlock (w := w7) (o' := .mapIter (some w.heap.size) clock (seen.push e.born) clock) hr7
      have hS1 := HS1.out
      have hS2 := HS2.out
      have hes8 : (ChangeMaps.setBlock w7 (b2 + 1) (.mapIter (some w.heap.size) clock (seen.push e.born) clock)).heap[w.heap.size]? = some (.map es clock) := by rw [hT.block _ (by omega), hb7]; exact H6.out
      have hent := run_entry_at (P := Tryz.prog) _ (b2 + 1) w.heap.size clock seen es clock e hset hes8 hmem.1 HND.out
      rw [hk, hv] at hnext hent
      have HPS := Aside0.mk (ps_step HE.out (mapOfM_nodup l0) HND.out HP.out hmem.1 hmem.2 hk (q := p) hp)
      have HM18 := Aside0.mk (HM1.out.of_block (w' := ChangeMaps.setBlock w7 (b2 + 1) (.mapIter (some w.heap.size) clock (seen.push e.born) clock)) (by rw [hT.block _ (by omega), hb7]))
      have HM28 := Aside0.mk (HM2.out.of_block (w' := ChangeMaps.setBlock w7 (b2 + 1) (.mapIter (some w.heap.size) clock (seen.push e.born) clock)) (by rw [hT.block _ (by omega), hb7]))
      have HB8 := Aside0.mk (hB7.grown (turned_grown hT) (by rw [hb7]; have := HLT.out; omega) (fun k e2 => by cases e2; omega))
      have HZ8 := Aside0.mk (show (ChangeMaps.setBlock w7 (b2 + 1) (.mapIter (some w.heap.size) clock (seen.push e.born) clock)).heap.size = wr.heap.size by rw [hT.size, hb7])
      have HSET := Aside0.mk hset
      have HES8 := Aside0.mk hes8
      have HSH := Aside0.mk hsh
      have HM0 := Aside0.mk (show leftAt (b2 + 1) es wr = (leftOf es seen).size by unfold leftAt; rw [H7.out])
      clear hmem hsh hk hv hw7 hb7 hB7 hr7 hT hset hes8 he hp hS1 hS2
      generalize ChangeMaps.setBlock w7 (b2 + 1) (.mapIter (some w.heap.size) clock (seen.push e.born) clock) = w8 at *
      obtain ⟨k, x⟩ := p
      dsimp only at hnext hent HPS
      have hnext' : (Instr.next (.pointer (some ⟨b2 + 1, 0, none⟩)) false 0).run Tryz.prog wr = .ok (.tuple #[.bool true, .string k, .agg #[.string x.f0, .int .i64 x.f1, .int .u32 x.f2.f0, .int .u32 x.f2.f1, .int .u32 x.f2.f2, .int .i64 x.f2.f3, .int .i32 x.f2.f4, .int .i64 x.f3, .int .u64 x.f4, .string x.f5]]) w8 := hnext
      have hent' : (Instr.entry (.pointer (some ⟨b2 + 1, 0, none⟩))).run Tryz.prog w8 = .ok (.tuple #[.string k, .agg #[.string x.f0, .int .i64 x.f1, .int .u32 x.f2.f0, .int .u32 x.f2.f1, .int .u32 x.f2.f2, .int .i64 x.f2.f3, .int .i32 x.f2.f4, .int .i64 x.f3, .int .u64 x.f4, .string x.f5]]) w8 := hent
      clear hnext hent
      have hM19 : MapAt keyStr encM (w8.alloc (.cells #[.string x.f0, .int .i64 x.f1, .int .u32 x.f2.f0, .int .u32 x.f2.f1, .int .u32 x.f2.f2, .int .i64 x.f2.f3, .int .i32 x.f2.f4, .int .i64 x.f3, .int .u64 x.f4, .string x.f5] 46)) b1 (mapOfM l1) := HM18.out.of_block (Below.heap_alloc _ _ _ HM18.out.lt)
      have hlook := hM19.look (P := Tryz.prog) (t := 56) (kt := 9) (et := 46) Tryz.underlying56 Tryz.underlying9 (zeroM _) k true
      have hM29 := HM28.out.of_block (w' := w8.alloc (.cells #[.string x.f0, .int .i64 x.f1, .int .u32 x.f2.f0, .int .u32 x.f2.f1, .int .u32 x.f2.f2, .int .i64 x.f2.f3, .int .i32 x.f2.f4, .int .i64 x.f3, .int .u64 x.f4, .string x.f5] 46)) (Below.heap_alloc _ _ _ HM28.out.lt)
      cases hag : aget k (mapOfM l1) with
      | none =>
        rw [hag] at hlook
        have hlook' : (Instr.lookup 56 (.map (some b1)) (.string k) true).run Tryz.prog (w8.alloc (.cells #[.string x.f0, .int .i64 x.f1, .int .u32 x.f2.f0, .int .u32 x.f2.f1, .int .u32 x.f2.f2, .int .i64 x.f2.f3, .int .i32 x.f2.f4, .int .i64 x.f3, .int .u64 x.f4, .string x.f5] 46)) = .ok (.tuple #[.agg #[.string ⟨#[]⟩, .int .i64 0, .int .u32 0, .int .u32 0, .int .u32 0, .int .i64 0, .int .i32 0, .int .i64 0, .int .u64 0, .string ⟨#[]⟩], .bool false]) (w8.alloc (.cells #[.string x.f0, .int .i64 x.f1, .int .u32 x.f2.f0, .int .u32 x.f2.f1, .int .u32 x.f2.f2, .int .i64 x.f2.f3, .int .i32 x.f2.f4, .int .i64 x.f3, .int .u64 x.f4, .string x.f5] 46)) := hlook
        have hM2a := hM29.of_block (w' := (w8.alloc (.cells #[.string x.f0, .int .i64 x.f1, .int .u32 x.f2.f0, .int .u32 x.f2.f1, .int .u32 x.f2.f2, .int .i64 x.f2.f3, .int .i32 x.f2.f4, .int .i64 x.f3, .int .u64 x.f4, .string x.f5] 46)).alloc (.cells #[.string ⟨#[]⟩, .int .i64 0, .int .u32 0, .int .u32 0, .int .u32 0, .int .i64 0, .int .i32 0, .int .i64 0, .int .u64 0, .string ⟨#[]⟩] 46)) (Below.heap_alloc _ _ _ hM29.lt)
        obtain ⟨wa, hput, hMa, hTa⟩ := hM2a.put (P := Tryz.prog) (t := 58) (kt := 9) (et := 3) Tryz.underlying58 Tryz.underlying9 k (2 : Int)
        have hput' : (Instr.mapUpdate 58 (.map (some b2)) (.string k) (.int .i64 2)).run Tryz.prog ((w8.alloc (.cells #[.string x.f0, .int .i64 x.f1, .int .u32 x.f2.f0, .int .u32 x.f2.f1, .int .u32 x.f2.f2, .int .i64 x.f2.f3, .int .i32 x.f2.f4, .int .i64 x.f3, .int .u64 x.f4, .string x.f5] 46)).alloc (.cells #[.string ⟨#[]⟩, .int .i64 0, .int .u32 0, .int .u32 0, .int .u32 0, .int .i64 0, .int .i32 0, .int .i64 0, .int .u64 0, .string ⟨#[]⟩] 46)) = .ok () wa := hput
        have HMa := Aside0.mk hMa
        have HTa := Aside0.mk (turned_grown hTa)
        have HAG := Aside0.mk hag
        clear hlook hput hMa hTa hM2a hM29 hM19 hag
        go_wp2_with fail
        have hfo : (ps ++ [(k, x)]).foldl (stepW (mapOfM l1)) [] = aset k 2 (ps.foldl (stepW (mapOfM l1)) []) := by rw [List.foldl_append]; simp [stepW, HAG.out]
        have hS1 := HS1.out
        have hS2 := HS2.out
        have hL := HLT.out
        have hZ8 := HZ8.out
        have hza : ((w8.alloc (.cells #[.string x.f0, .int .i64 x.f1, .int .u32 x.f2.f0, .int .u32 x.f2.f1, .int .u32 x.f2.f2, .int .i64 x.f2.f3, .int .i32 x.f2.f4, .int .i64 x.f3, .int .u64 x.f4, .string x.f5] 46)).alloc (.cells #[.string ⟨#[]⟩, .int .i64 0, .int .u32 0, .int .u32 0, .int .u32 0, .int .i64 0, .int .i32 0, .int .i64 0, .int .u64 0, .string ⟨#[]⟩] 46)).heap.size = w8.heap.size + 2 := by simp
        have keep : ∀ i, i < w8.heap.size → i ≠ b2 → wa.heap[i]? = w8.heap[i]? := fun i hi hne => (HTa.out.block i (by omega) (fun e2 => hne (by cases e2; rfl))).trans ((Below.heap_alloc _ _ _ (by simp; omega)).trans (Below.heap_alloc _ _ _ hi))
        exact ⟨⟨_, _, ps ++ [(k, x)], ⟨(keep _ (by omega) (by omega)).trans HSET.out⟩, ⟨Nat.le_refl _⟩, ⟨(keep _ (by omega) (by omega)).trans HES8.out⟩, ⟨(below_alloc (below_alloc HB8.out _) _).grown HTa.out (by have := below_size HB8.out; omega) (fun k e2 => by cases e2; omega)⟩, ⟨HM18.out.of_block (keep _ (by omega) (by omega))⟩, ⟨by rw [hfo]; exact HMa.out⟩, HPS, ⟨by have := HTa.out.size; omega⟩, ⟨by have := HN.out; have := HSH.out; simp only [List.length_append, List.length_singleton]; omega⟩⟩, by rw [HM0.out]; unfold leftAt; rw [(keep _ (by omega) (by omega)).trans HSET.out]; exact HSH.out⟩
      | some n =>
        rw [hag] at hlook
        have hlook' : (Instr.lookup 56 (.map (some b1)) (.string k) true).run Tryz.prog (w8.alloc (.cells #[.string x.f0, .int .i64 x.f1, .int .u32 x.f2.f0, .int .u32 x.f2.f1, .int .u32 x.f2.f2, .int .i64 x.f2.f3, .int .i32 x.f2.f4, .int .i64 x.f3, .int .u64 x.f4, .string x.f5] 46)) = .ok (.tuple #[.agg #[.string n.f0, .int .i64 n.f1, .int .u32 n.f2.f0, .int .u32 n.f2.f1, .int .u32 n.f2.f2, .int .i64 n.f2.f3, .int .i32 n.f2.f4, .int .i64 n.f3, .int .u64 n.f4, .string n.f5], .bool true]) (w8.alloc (.cells #[.string x.f0, .int .i64 x.f1, .int .u32 x.f2.f0, .int .u32 x.f2.f1, .int .u32 x.f2.f2, .int .i64 x.f2.f3, .int .i32 x.f2.f4, .int .i64 x.f3, .int .u64 x.f4, .string x.f5] 46)) := hlook
        have hM2a := hM29.of_block (w' := (w8.alloc (.cells #[.string x.f0, .int .i64 x.f1, .int .u32 x.f2.f0, .int .u32 x.f2.f1, .int .u32 x.f2.f2, .int .i64 x.f2.f3, .int .i32 x.f2.f4, .int .i64 x.f3, .int .u64 x.f4, .string x.f5] 46)).alloc (.cells #[.string n.f0, .int .i64 n.f1, .int .u32 n.f2.f0, .int .u32 n.f2.f1, .int .u32 n.f2.f2, .int .i64 n.f2.f3, .int .i32 n.f2.f4, .int .i64 n.f3, .int .u64 n.f4, .string n.f5] 46)) (Below.heap_alloc _ _ _ hM29.lt)
        have HM2a := Aside0.mk hM2a
        have HAG := Aside0.mk hag
        clear hlook hM2a hM29 hM19 hag
        go_wp2_with fail
        refine (ch.otherCall x n _).mono ?_
        rintro e2 wc ⟨rfl, hBc⟩
        have hza : ((w8.alloc (.cells #[.string x.f0, .int .i64 x.f1, .int .u32 x.f2.f0, .int .u32 x.f2.f1, .int .u32 x.f2.f2, .int .i64 x.f2.f3, .int .i32 x.f2.f4, .int .i64 x.f3, .int .u64 x.f4, .string x.f5] 46)).alloc (.cells #[.string n.f0, .int .i64 n.f1, .int .u32 n.f2.f0, .int .u32 n.f2.f1, .int .u32 n.f2.f2, .int .i64 n.f2.f3, .int .i32 n.f2.f4, .int .i64 n.f3, .int .u64 n.f4, .string n.f5] 46)).heap.size = w8.heap.size + 2 := by simp
        have hMc := HM2a.out.of_block (w' := wc) (hBc.block _ HM2a.out.lt)
        have keepc : ∀ i, i < w8.heap.size → wc.heap[i]? = w8.heap[i]? := fun i hi => (hBc.block i (by omega)).trans ((Below.heap_alloc _ _ _ (by simp; omega)).trans (Below.heap_alloc _ _ _ hi))
        have HBc := Aside0.mk (show Below w.heap.size w wc from (below_alloc (below_alloc HB8.out _) _).trans (hBc.mono (by have := below_size HB8.out; omega)))
        have HKc := Aside0.mk keepc
        have HZc := Aside0.mk (show w8.heap.size ≤ wc.heap.size by have := hBc.size; omega)
        obtain ⟨v, hvv⟩ : ∃ v, otherS x n = v := ⟨_, rfl⟩
        rw [hvv]
        have HV := Aside0.mk hvv
        clear hvv hza keepc hBc
        by_cases hv0 : v = 0
        · have q0 : (v != 0) = false := by simp [hv0]
          have q1 : decide (v = 0) = true := by simp [hv0]
          have q2 : (v == 0) = true := by simp [hv0]
          have HMc := Aside0.mk hMc
          have HV0 := Aside0.mk hv0
          clear hMc hv0
          go_wp2_with fail
          have hfo : (ps ++ [(k, x)]).foldl (stepW (mapOfM l1)) [] = ps.foldl (stepW (mapOfM l1)) [] := by rw [List.foldl_append]; simp [stepW, HAG.out, HV.out, HV0.out]
          have hS1 := HS1.out
          have hS2 := HS2.out
          have hL := HLT.out
          have hZ8 := HZ8.out
          have hzc := HZc.out
          have keep := HKc.out
          exact ⟨⟨_, _, ps ++ [(k, x)], ⟨(keep _ (by omega)).trans HSET.out⟩, ⟨Nat.le_refl _⟩, ⟨(keep _ (by omega)).trans HES8.out⟩, HBc, ⟨HM18.out.of_block (keep _ (by omega))⟩, ⟨by rw [hfo]; exact HMc.out⟩, HPS, ⟨by omega⟩, ⟨by have := HN.out; have := HSH.out; simp only [List.length_append, List.length_singleton]; omega⟩⟩, by rw [HM0.out]; unfold leftAt; rw [(keep _ (by omega)).trans HSET.out]; exact HSH.out⟩
        · have q0 : (v != 0) = true := by simp [hv0]
          have q1 : decide (v = 0) = false := by simp [hv0]
          have q2 : (v == 0) = false := by simp [hv0]
          obtain ⟨wa, hput, hMa, hTa⟩ := hMc.put (P := Tryz.prog) (t := 58) (kt := 9) (et := 3) Tryz.underlying58 Tryz.underlying9 k v
          have hput' : (Instr.mapUpdate 58 (.map (some b2)) (.string k) (.int .i64 v)).run Tryz.prog wc = .ok () wa := hput
          have HMa := Aside0.mk hMa
          have HTa := Aside0.mk (turned_grown hTa)
          have HV0 := Aside0.mk hv0
          clear hput hMa hTa hMc hv0
          go_wp2_with fail
          have hfo : (ps ++ [(k, x)]).foldl (stepW (mapOfM l1)) [] = aset k v (ps.foldl (stepW (mapOfM l1)) []) := by rw [List.foldl_append]; simp [stepW, HAG.out, HV.out, HV0.out]
          have hS1 := HS1.out
          have hS2 := HS2.out
          have hL := HLT.out
          have hZ8 := HZ8.out
          have hzc := HZc.out
          have keep : ∀ i, i < w8.heap.size → i ≠ b2 → wa.heap[i]? = w8.heap[i]? := fun i hi hne => (HTa.out.block i (by omega) (fun e2 => hne (by cases e2; rfl))).trans (HKc.out i hi)
          exact ⟨⟨_, _, ps ++ [(k, x)], ⟨(keep _ (by omega) (by omega)).trans HSET.out⟩, ⟨Nat.le_refl _⟩, ⟨(keep _ (by omega) (by omega)).trans HES8.out⟩, ⟨HBc.out.grown HTa.out (by have := below_size HBc.out; omega) (fun k e2 => by cases e2; omega)⟩, ⟨HM18.out.of_block (keep _ (by omega) (by omega))⟩, ⟨by rw [hfo]; exact HMa.out⟩, HPS, ⟨by have := HTa.out.size; omega⟩, ⟨by have := HN.out; have := HSH.out; simp only [List.length_append, List.length_singleton]; omega⟩⟩, by rw [HM0.out]; unfold leftAt; rw [(keep _ (by omega) (by omega)).trans HSET.out]; exact HSH.out⟩

def compare_Changes.f (l0 : List S46) (l1 : List S46) : Option (List S27) := if l0.length + l1.length ≤ 1099511627776 ∧ (l0 ++ l1).all (fun x => decide (x.f0.size ≤ maxLen)) = true then some (changesS l0 l1) else none
theorem compare_Changes.calls (A0 : Option Addr) (c0 : Nat) (l0 : List S46) (A1 : Option Addr) (c1 : Nat) (l1 : List S46) (r : List S27) (w : World) (hr0 : Kd.C k46 w A0 l0.length l0) (hc0 : l0.length ≤ c0) (hr1 : Kd.C k46 w A1 l1.length l1) (hc1 : l1.length ≤ c1) (h : compare_Changes.f l0 l1 = some r) :
    Calls Tryz.prog 6 #[.slice A0 l0.length c0, .slice A1 l1.length c1] w fun e w' => ∃ v0_ : Value, e = .returned (v0_) ∧ Kd.R k27 27 w' w.heap.size (fun _ => True) v0_ r ∧ Below w.heap.size w w' := by
  unfold compare_Changes.f at h
  split at h
  · rename_i hl
    have h' := Option.some.inj h
    refine (ch.changes A0 A1 c0 c1 l0 l1 w hr0 hr1 hc0 hc1 hl.1 (fun x hx => of_decide_eq_true (List.all_eq_true.1 hl.2 x hx))).mono ?_
    rintro e w' ⟨v, d, rfl, hR, hC, hB⟩
    rw [← h', ← hC.unique (changesS_is l0 l1)]
    exact ⟨v, rfl, hR, hB⟩
  · cases h
end


end Go.Proofs.YtcjahipcfcghlaaGreat.PCompareSteps
