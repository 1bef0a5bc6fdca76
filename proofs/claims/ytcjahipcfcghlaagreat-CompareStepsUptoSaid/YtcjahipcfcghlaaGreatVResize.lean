/- vfs, pack, compare: contracts of the functions (texts VZeros, VSized, VResize, MERGED). -/
import Derived.Maps.AppendAt
import Derived.Deep.AppendLies
import Derived.Test.YtcjahipcfcghlaaGreatVLink
import Derived.Test.YtcjahipcfcghlaaGreatVTurn
import Derived.Test.YtcjahipcfcghlaaGreatClone
/- 'append(s, make([]T, n)...)' at an element of one cell. No program in sight. -/
namespace Go.Proofs.YtcjahipcfcghlaaGreatV
set_option linter.unusedVariables false
set_option linter.unusedSimpArgs false
theorem zeroCells_one (z : Value) (n : Nat) : Builtin.zeroCells #[z] n = (List.replicate n z).toArray := by
  unfold Builtin.zeroCells
  apply Array.ext
  · simp
  · intro i h1 h2
    simp [Nat.mod_one]
theorem run_asIntOf (P : Program) (k : IntKind) (m : Int) (w : World) : (asIntOf (.int k m)).run P w = .ok (k, m) w := rfl
section
variable {P : Program} {w : World}
theorem run_append_zeros (base : Nat) (t u ty e : TypeId) (k : IntKind) (i : TypeInfo) (z : Value) (bytes : Nat) (ht : P.underlying t = some (.slice e)) (hu : P.underlying u = some (.int k)) (hi : P.info? e = some i) (hz : i.zero = some z)
    (hsize : i.size = 1) (hby : i.bytes = bytes) (hzs : z.cells = #[z]) (h1 : z.oneCell' = true) (v : Value) (n : Nat) (xs : List Value) (hown : w.ownsRow base e 1 v n xs) (m : Nat) (hm : 0 < m) (hmax : (m : Int) ≤ 9223372036854775807) (hmb : (m : Int) * bytes ≤ 281474976710656) (h63 : n + m ≤ maxLen)
    (hbytes : (n + m) * bytes ≤ 140737488355328) (hbase : base ≤ w.heap.size) :
    ∃ g cap w', (Builtin.append_ #[t, u] ty #[v, .int .i64 m]).run P w = .ok (.slice (some ⟨g, 0, none⟩) (n + m) cap) w' ∧ w'.ownsRow base e 1 (.slice (some ⟨g, 0, none⟩) (n + m) cap) (n + m) (xs ++ List.replicate m z) ∧ w.grownBy w' v.ownBlock ∧ (v.ownBlock = some g ∨ g = w.heap.size) ∧ g < w'.heap.size := by
  subst hby
  have hsmall : n + m ≤ 9223372036854775807 := by simp only [maxLen] at h63; omega
  have hxl : xs.length = n := by simpa using hown.1
  have hlen : (xs ++ List.replicate m z).length = (n + m) * 1 := by simp [hxl]
  have hwr : IntKind.i64.wrap (m : Int) = m := by
    unfold IntKind.wrap
    simp [IntKind.signed, IntKind.bits]
    omega
  have hneg : ¬ ((m : Int) < 0) := by omega
  have hmb' : ¬ (281474976710656 < (m : Int) * (i.bytes : Int)) := by omega
  have hm0 : m ≠ 0 := by omega
  have grown : ∀ (old : Nat), old < n + m → ∀ (row : Option Nat),
      (w.drew.alloc (.cells (xs.toArray ++ (List.replicate m z).toArray ++ Builtin.zeroCells z.cells (grownCap w (n + m) old e - (n + m))) e)).ownsRow base e 1
        (.slice (some ⟨w.heap.size, 0, none⟩) (n + m) (grownCap w (n + m) old e)) (n + m) (xs ++ List.replicate m z) ∧
      w.grownBy (w.drew.alloc (.cells (xs.toArray ++ (List.replicate m z).toArray ++ Builtin.zeroCells z.cells (grownCap w (n + m) old e - (n + m))) e)) row := by
    intro old ho row
    have hge := grownCap_ge w (n + m) old e
    have hcm : grownCap w (n + m) old e ≤ maxLen := grownCap_le_maxLen w (n + m) old e h63
    refine ⟨⟨hlen, .inr ⟨w.heap.size, _, _, rfl, hbase, heap_alloc_new w.drew _, hge, hcm, ?_, ?_⟩⟩, ⟨rfl, rfl, rfl, by simp, fun k hk _ => Go.RowKit.Below.heap_alloc w.drew _ k hk⟩⟩
    · simp only [Array.size_append, List.size_toArray, size_zeroCells, hzs, hxl, List.length_replicate]
      simp
      omega
    · simp only [Array.toList_append, List.append_assoc]
      rw [← List.append_assoc, ← hlen]
      exact List.take_left
  rcases hown.2 with ⟨rfl, rfl⟩ | ⟨g, cap, cur, rfl, hbg, hg, hnc, hcm, hcs, htake⟩
  · have hx : xs = [] := List.eq_nil_of_length_eq_zero hxl
    subst hx
    have h63' : ¬ (9223372036854775807 < (m : Int)) := by omega
    have h48' : ¬ (281474976710656 < Builtin.nextslicecap m 0 * i.bytes) := by
      rw [nextslicecap_zero hm]
      have : m * i.bytes ≤ 140737488355328 := by simpa using hbytes
      omega
    have hgr := grown 0 (by omega) (Value.ownBlock (.slice none 0 0))
    simp only [Nat.zero_add, List.nil_append, Array.empty_append] at hgr ⊢
    refine ⟨w.heap.size, _, _, ?_, hgr.1, hgr.2, .inr rfl, by simp⟩
    simp [Builtin.append_, run_underlying ht, run_underlying hu, sizeOf, typeInfo, zeroValue, hi, hz, hsize, asInt, run_asIntOf, hwr, hneg, hmb', hm0, h63', h48', Question.forced, run_firstCells_none, newRow, grownCap, hzs, zeroCells_one]
  · by_cases hroom : n + m ≤ cap
    · have hfit : n * i.size + (List.replicate m z).length ≤ cur.size := by simp [hsize]; omega
      have hst := run_storeCells_at P g (n * i.size) e (List.replicate m z) 0 cur w hg (by simpa using hfit) (fun u hu => by rw [List.eq_of_mem_replicate hu]; exact h1)
      simp only [Nat.add_zero, hsize, Nat.mul_one] at hst
      refine ⟨g, cap, _, ?_, ⟨hlen, .inr ⟨g, cap, _, rfl, hbg, setRow_heap w g cur (cur.toList.take n ++ List.replicate m z ++ cur.toList.drop (n + m)).toArray e _ hg, hroom, hcm, ?_, ?_⟩⟩, ⟨rfl, rfl, rfl, by simp, fun k _ hk => setRow_other w g k _ (fun e => hk (by simp [Value.ownBlock, e]))⟩, .inl rfl, ?_⟩
      · simp [Builtin.append_, run_underlying ht, run_underlying hu, sizeOf, typeInfo, zeroValue, hi, hz, hsize, asInt, run_asIntOf, hwr, hneg, hmb', hm0, hroom, hzs, zeroCells_one, Addr.add_lit, hst]
      · simp; omega
      · rw [show cur.toList.take n = xs by simpa using htake, ← hlen]
        exact List.take_left
      · have := (Array.getElem?_eq_some_iff.1 hg).1
        simpa using this
    · have holds : ∀ j u, xs[j]? = some u → w.cell? ((⟨g, 0, none⟩ : Addr).add j) = some u := hown.cells (g := g) rfl
      have hn : ¬ (n + m ≤ cap) := hroom
      have h63' : ¬ (9223372036854775807 < ((n : Int) + (m : Int))) := by omega
      have h48' : ¬ (281474976710656 < Builtin.nextslicecap (n + m) cap * i.bytes) := by have := growslice_fits (bytes := i.bytes) (show cap < n + m by omega) hbytes; omega
      have hfo := run_firstCells_some (P := P) w.drew i.size n ⟨g, 0, none⟩ n cap xs (by simp [hxl, hsize]) (by simpa using holds)
      rw [hsize] at hfo
      have hgr := grown cap (by omega) (Value.ownBlock (.slice (some ⟨g, 0, none⟩) n cap))
      refine ⟨w.heap.size, _, _, ?_, hgr.1, hgr.2, .inr rfl, by simp⟩
      simp [Builtin.append_, run_underlying ht, run_underlying hu, sizeOf, typeInfo, zeroValue, hi, hz, hsize, asInt, run_asIntOf, hwr, hneg, hmb', hm0, hn, h63', h48', Question.forced, hfo, newRow, grownCap, hzs, zeroCells_one]
theorem wp_append_zeros {o : Oper} {a : Act} {K : Act → World → Prop} {Q : Exit → Act → World → Prop} (s x : Operand) (t u : TypeId)
    (ho : o.op = .call { callee := .builtin .append, args := #[s, x], argTypes := #[t, u] }) (base : Nat) (e : TypeId) (k : IntKind) (i : TypeInfo) (z : Value) (bytes : Nat) (ht : P.underlying t = some (.slice e)) (hu : P.underlying u = some (.int k)) (hi : P.info? e = some i) (hz : i.zero = some z)
    (hsize : i.size = 1) (hby : i.bytes = bytes) (hzs : z.cells = #[z]) (h1 : z.oneCell' = true) (v : Value) (n : Nat) (xs : List Value) (hs : a.eval s = v) (hown : w.ownsRow base e 1 v n xs) (m : Nat) (zi : Int) (hx : a.eval x = .int .i64 zi) (hzi : zi = m) (hm : 0 < m) (hmax : (m : Int) ≤ 9223372036854775807)
    (hmb : (m : Int) * bytes ≤ 281474976710656) (h63 : n + m ≤ maxLen) (hbytes : (n + m) * bytes ≤ 140737488355328) (hbase : base ≤ w.heap.size) (H : Nat) (hH : w.heap.size = H)
    (h : ∀ g cap w', w'.ownsRow base e 1 (.slice (some ⟨g, 0, none⟩) (n + m) cap) (n + m) (xs ++ List.replicate m z) → w.grownBy w' v.ownBlock → (v.ownBlock = some g ∨ g = H) → g < w'.heap.size → K (a.put o.dst (.slice (some ⟨g, 0, none⟩) (n + m) cap)) w') : o.wp P a w K Q := by
  obtain ⟨g, cap, w', hr, h2, h3, h4, h5⟩ := run_append_zeros (P := P) (w := w) base t u o.type e k i z bytes ht hu hi hz hsize hby hzs h1 v n xs hown m hm hmax hmb h63 hbytes hbase
  subst hzi
  unfold Oper.wp execOp
  simp only [ho, resolve, invoke, builtin, Sem.run_bind, Sem.run_pure, Result.andThen_ok, List.map_toArray, List.map_cons, List.map_nil, hs, hx, hr]
  exact h g cap w' h2 h3 (h4.imp id fun e => e.trans hH) h5
theorem step_append_zeros (w : World) {ops : Array Oper} {o : Oper} {a : Act} {K : Act → World → Prop} {Q : Exit → Act → World → Prop} {E : Prop} (hgd : o.guard = none) (s x : Operand) (t u : TypeId)
    (ho : o.op = .call { callee := .builtin .append, args := #[s, x], argTypes := #[t, u] }) (base : Nat) (e : TypeId) (k : IntKind) (i : TypeInfo) (z : Value) (bytes : Nat) (ht : P.underlying t = some (.slice e)) (hu : P.underlying u = some (.int k)) (hi : P.info? e = some i) (hz : i.zero = some z)
    (hsize : i.size = 1) (hby : i.bytes = bytes) (hzs : z.cells = #[z]) (h1 : z.oneCell' = true) (v : Value) (n : Nat) (xs : List Value) (hs : a.eval s = v) (hown : w.ownsRow base e 1 v n xs) (m : Nat) (zi : Int) (hx : a.eval x = .int .i64 zi) (hzi : zi = m) (hm : 0 < m) (hmax : (m : Int) ≤ 9223372036854775807)
    (hmb : (m : Int) * bytes ≤ 281474976710656) (h63 : n + m ≤ maxLen) (hbytes : (n + m) * bytes ≤ 140737488355328) (hbase : base ≤ w.heap.size) (H : Nat) (hH : w.heap.size = H)
    (h : ∀ g cap w', w'.ownsRow base e 1 (.slice (some ⟨g, 0, none⟩) (n + m) cap) (n + m) (xs ++ List.replicate m z) → w.grownBy w' v.ownBlock → (v.ownBlock = some g ∨ g = H) → g < w'.heap.size → K (a.put o.dst (.slice (some ⟨g, 0, none⟩) (n + m) cap)) w') :
    if Region.wanted o (yielded ops a.tmps) = true then Oper.wp P o a w K Q else E := by
  have hw : Region.wanted o (yielded ops a.tmps) = true := by simp [Region.wanted, hgd]
  rw [if_pos hw]
  exact wp_append_zeros s x t u ho base e k i z bytes ht hu hi hz hsize hby hzs h1 v n xs hs hown m zi hx hzi hm hmax hmb h63 hbytes hbase H hH h
end
end Go.Proofs.YtcjahipcfcghlaaGreatV

/- vfs: sized. -/
namespace Go.Proofs.YtcjahipcfcghlaaGreatV
open Go.RowKit
set_option linter.unusedVariables false
set_option linter.unusedSimpArgs false
section
variable {w : World} {B f : Nat} {own : Nat → Option Int} {Ph : Phys} {S : FSt}
theorem infoByte : (Tryz.prog.info? 5).map (fun i => (i.zero, i.size, i.bytes)) = some (some (.int .u8 0), 1, 1) := by kernel_rfl
/-- What a call makes of a file system; the inodes stay where they are. -/
def UpdI (w : World) (B f : Nat) (own : Nat → Option Int) (ib : Int → Nat) (S' : FSt) (w' : World) : Prop := ∃ own' Ph', FSRep w' B f own' Ph' S' ∧ Frame w w' own own' ∧ Ph'.ib = ib
def newOwn (own : Nat → Option Int) (v : Value) (n : Int) : Nat → Option Int := fun b => if v.ownBlock = some b then some n else own b
theorem owns_ge {w : World} {base : Nat} {e : TypeId} {size n : Nat} {v : Value} {xs : List Value} (h : w.ownsRow base e size v n xs) {g : Nat} (hg : v.ownBlock = some g) : base ≤ g := by
  rcases h.2 with ⟨rfl, _⟩ | ⟨g', cap, cur, rfl, h1, _⟩
  · simp [Value.ownBlock] at hg
  · simp [Value.ownBlock] at hg
    omega
/-- A file's bytes: another row. -/
theorem FSRep.data_end (h : FSRep w B f own Ph S) {n : Int} {i : Ino} (hi : aget n S.inodes = some i) {w2 : World} {v : Value} (d : List Int) (hown : w2.ownsRow B 5 1 v d.length (byteCells d))
    (hgrow : w.grownBy w2 (Ph.dv n).ownBlock) (hat : ∀ g, v.ownBlock = some g → (Ph.dv n).ownBlock = some g ∨ w.heap.size ≤ g) :
    FSRep (w2.setCell ⟨Ph.ib n, 6, none⟩ v) B f (newOwn own v n) (Ph.at n v (Ph.ev n)) (setIno S n { i with data := d }) ∧ Frame w (w2.setCell ⟨Ph.ib n, 6, none⟩ v) own (newOwn own v n) := by
  have hI := h.inos n i hi
  have hT := Turned.setCell w2 (Ph.ib n) 6 v
  have hib2 : w2.heap[Ph.ib n]? = some (.cells (inoCells i (Ph.dv n) (Ph.ev n)) 71 (0, 0)) := (hgrow.block _ (h.lt hI.ok) (fun e => hI.data_ne e.symm)).trans hI.cells
  have hsz : w.heap.size ≤ (w2.setCell ⟨Ph.ib n, 6, none⟩ v).heap.size := by rw [hT.size]; exact hgrow.size
  have hblk : ∀ b, b < w.heap.size → b ≠ Ph.ib n → (Ph.dv n).ownBlock ≠ some b → (w2.setCell ⟨Ph.ib n, 6, none⟩ v).heap[b]? = w.heap[b]? := fun b h1 h2 h3 => (hT.block b h2).trans (hgrow.block b h1 (fun e => h3 e.symm))
  have hvib : v.ownBlock ≠ some (Ph.ib n) := fun e => by
    rcases hat _ e with e' | e'
    · exact hI.data_ne e'
    · have := h.lt hI.ok; omega
  have hkeep : ∀ b m, own b = some m → m ≠ n → (w2.setCell ⟨Ph.ib n, 6, none⟩ v).heap[b]? = w.heap[b]? ∧ newOwn own v n b = some m := fun b m ho hm => by
    have h3 : (Ph.dv n).ownBlock ≠ some b := fun e => by have := hI.data.ok b e; rw [ho] at this; exact hm (Option.some.inj this)
    refine ⟨hblk b (h.lt ho) (fun e => by rw [e, hI.ok] at ho; exact hm (Option.some.inj ho).symm) h3, ?_⟩
    unfold newOwn
    rw [if_neg (fun e => by
      rcases hat _ e with e' | e'
      · exact h3 e'
      · have := h.lt ho; omega)]
    exact ho
  have hsame : ∀ b, own b = some n → newOwn own v n b = some n := fun b hb => by unfold newOwn; split <;> first | rfl | exact hb
  refine ⟨h.ino_set hi hsz hkeep (fun b m ho => ?_) ⟨(heap_setCell_at hib2 6 v).trans rfl, hsame _ hI.ok, ⟨own_move hown fun k hk => hT.block k fun e => hvib (by rw [hk, e]), fun k hk => if_pos hk⟩, ?_⟩, ⟨hgrow.os, hgrow.tape, hgrow.output, hsz, fun b hb ho => ⟨hblk b hb (fun e => by rw [e, hI.ok] at ho; cases ho) (fun e => by have := hI.data.ok b e; rw [ho] at this; cases this), ?_⟩⟩⟩
  · unfold newOwn at ho
    split at ho
    · rename_i hv
      exact ⟨owns_ge hown hv, by rw [hT.size]; exact (hown.lt b hv).2⟩
    · exact ⟨(h.below b m ho).1, Nat.lt_of_lt_of_le (h.below b m ho).2 hsz⟩
  · rcases hI.ents with ⟨h1, eb, h2, h3, h4⟩ | h1
    · refine .inl ⟨h1, eb, h2, hsame eb h3, h4.of_block (hblk eb (h.lt h3) (fun e => ?_) fun e => ?_)⟩
      · obtain ⟨es, clock, hm, _⟩ := h4
        rw [e, hI.cells] at hm
        cases hm
      · obtain ⟨es, clock, hm, _⟩ := h4
        rcases hI.data.own.2 with ⟨h1, _⟩ | ⟨g', cap, cur, h1, _, h2, _⟩
        · rw [h1] at e; simp [Value.ownBlock] at e
        · rw [h1] at e
          simp [Value.ownBlock] at e
          rw [e, hm] at h2
          cases h2
    · exact .inr h1
  · unfold newOwn
    rw [if_neg (fun e => by
      rcases hat _ e with e' | e'
      · have := hI.data.ok b e'; rw [ho] at this; cases this
      · omega)]
    exact ho
theorem byteCells_take (l : List Int) (k : Nat) : byteCells (l.take k) = (byteCells l).take k := List.map_take
theorem clone_bytes {v : Value} {n : Nat} {xs : List Value} (h : w.ownsRow B 5 1 v n xs) (h1 : ∀ u ∈ xs, u.oneCell' = true) (a : Option Addr) (c k : Nat) (hv : v = .slice a n c) (hk : k ≤ n) (hn : n ≤ 4194304) (c' : Nat) :
    Calls Tryz.prog 38 #[.slice a k c'] w fun e w' => ∃ v', e = .returned v' ∧ w'.ownsRow w.heap.size 5 1 v' k (xs.take k) ∧ Below w.heap.size w w' := by
  subst hv
  obtain ⟨i0, hi, hz0, hz1, hz2⟩ := info_parts infoByte
  rcases h.2 with ⟨h2, h3⟩ | ⟨g, cap, cur, h2, h3, h4, h5⟩
  · simp only [Value.slice.injEq] at h2
    obtain ⟨rfl, _, rfl⟩ := h2
    have : k = 0 := by omega
    subst this
    refine (Tryz.slices_Clone_nil_uint8 0 c' w).mono ?_
    rintro e w' ⟨rfl, rfl⟩
    exact ⟨_, rfl, ⟨by simp, .inl ⟨rfl, rfl⟩⟩, Below.refl _ _⟩
  · simp only [Value.slice.injEq] at h2
    obtain ⟨rfl, _, rfl⟩ := h2
    have hlen : (xs.take k).length = k * 1 := by have := h.1; simp; omega
    refine (Tryz.slices_Clone_uint8 i0 (.int .u8 0) 1 1 hi hz0 hz1 hz2 rfl (by decide) Tryz.sizeOf5 g 0 k c' (xs.take k) w hlen (by unfold maxLen; omega) (by omega) (fun j u hu => ?_) (fun u hu => h1 u (List.mem_of_mem_take hu))).mono ?_
    · have hu' : xs[j]? = some u := by
        rw [List.getElem?_take] at hu
        split at hu
        · exact hu
        · cases hu
      have := h.cells (g := g) rfl j u hu'
      rw [Addr.add_lit] at this
      exact this
    · rintro e w' ⟨v', rfl, r1, _, r2⟩
      exact ⟨v', rfl, r1, r2⟩
theorem owns_base {w : World} {base base' : Nat} {e : TypeId} {size n : Nat} {v : Value} {xs : List Value} (h : w.ownsRow base e size v n xs) (hb : base' ≤ base) : w.ownsRow base' e size v n xs := by
  obtain ⟨h1, h2⟩ := h
  refine ⟨h1, ?_⟩
  rcases h2 with h2 | ⟨g, cap, cur, r1, r2, r3⟩
  · exact .inl h2
  · exact .inr ⟨g, cap, cur, r1, Nat.le_trans hb r2, r3⟩
theorem Below.grownBy' {w w' : World} (h : Below w.heap.size w w') (row : Option Nat) : w.grownBy w' row := ⟨h.os, h.tape, h.output, h.size, fun k hk _ => h.block k hk⟩
theorem owns_slice {w : World} {base : Nat} {e : TypeId} {size n : Nat} {v : Value} {xs : List Value} (h : w.ownsRow base e size v n xs) : ∃ a c, v = .slice a n c := by
  rcases h.2 with ⟨rfl, rfl⟩ | ⟨g, cap, cur, rfl, _⟩
  · exact ⟨none, 0, rfl⟩
  · exact ⟨_, cap, rfl⟩
theorem byteCells_len (l : List Int) : (byteCells l).length = l.length := List.length_map _
theorem byteCells_app (l m : List Int) : byteCells (l ++ m) = byteCells l ++ byteCells m := List.map_append
theorem byteCells_zeros (k : Nat) : byteCells (List.replicate k 0) = List.replicate k (.int .u8 0) := List.map_replicate
/-- The last step of 'sized'. -/
theorem sized_end (h : FSRep w B f own Ph S) (us : Int) {n : Int} {i : Ino} (hi : aget n S.inodes = some i) {w2 w3 : World} (hw2 : Below w.heap.size w w2) {v : Value} (d : List Int) (hown : w3.ownsRow B 5 1 v d.length (byteCells d))
    (hgrow : (w2.setCell ⟨f, 3, none⟩ (.int .i64 us)).grownBy w3 (Ph.dv n).ownBlock) (hat : ∀ g, v.ownBlock = some g → (Ph.dv n).ownBlock = some g ∨ w2.heap.size ≤ g) : UpdI w B f own Ph.ib (setIno { S with used := us } n { i with data := d }) (w3.setCell ⟨Ph.ib n, 6, none⟩ v) := by
  have h2 := (h.of_below hw2).used_set us
  have hsz := (Turned.setCell w2 f 3 (.int .i64 us)).size
  obtain ⟨e1, e2⟩ := h2.data_end hi d hown hgrow (fun g hg => by rw [hsz]; exact hat g hg)
  exact ⟨_, _, e1, (Frame.of_below hw2).trans ((Frame.of_turned (Turned.setCell w2 f 3 (.int .i64 us)) (by rw [h.okf]; simp)).trans e2), rfl⟩
theorem byteCells_one (l : List Int) : ∀ u ∈ byteCells l, u.oneCell' = true := fun u hu => by
  obtain ⟨z, _, rfl⟩ := List.mem_map.1 hu
  rfl
theorem resized_le {d : List Int} {k : Nat} (h : k ≤ d.length) : resized d k = d.take k := by
  unfold resized
  rw [Nat.sub_eq_zero_of_le h]
  simp
theorem resized_ge {d : List Int} {k : Nat} (h : d.length ≤ k) : resized d k = d ++ List.replicate (k - d.length) 0 := by
  unfold resized
  rw [List.take_of_length_le h]
theorem sizedS_no {node : Int} {i : Ino} {size : Int} (h : size - i.data.length > S.bytes - S.used) : sizedS S node i size = (105, S) := by unfold sizedS; rw [if_pos h]
theorem sizedS_ok {node : Int} {i : Ino} {size : Int} (h : ¬ (size - i.data.length > S.bytes - S.used)) : sizedS S node i size = (0, setIno { S with used := S.used + (size - i.data.length) } node { i with data := resized i.data size.toNat }) := by unfold sizedS; rw [if_neg h]
theorem sized_no (h : FSRep w B f own Ph S) (I : Inv S) (n : Int) (i : Ino) (hi : aget n S.inodes = some i) (size : Int) (h0 : 0 ≤ size) (h1 : size ≤ 4194304) (hno : size - i.data.length > S.bytes - S.used) :
    Calls Tryz.prog 20 #[.pointer (some ⟨f, 0, none⟩), .pointer (some ⟨Ph.ib n, 0, none⟩), .int .i64 size] w fun e w' => e = .returned (.int .i64 (sizedS S n i size).1) ∧ UpdI w B f own Ph.ib (sizedS S n i size).2 w' := by
  rw [sizedS_no hno]
  have HR := Lib.hid h
  have hI := h.inos n i hi
  obtain ⟨da, dc, hdv, hdc, hdm⟩ := row_slice hI.data
  have c1 := h.c.2.1
  have c3 := h.c.2.2.2.1
  have k6 := hI.c.2.2.2.2.2.2.1
  rw [hdv] at k6
  have hb := (I.ino n i hi).1
  have hby := I.bytes
  have hus := I.used
  have hw1 : IntKind.i64.wrap (size - (i.data.length : Int)) = size - i.data.length := wrap_small (by omega) (by omega)
  have hw2 : IntKind.i64.wrap (S.bytes - S.used) = S.bytes - S.used := wrap_small (by omega) (by omega)
  have hlt : S.bytes - S.used < size - (i.data.length : Int) := hno
  clear h hI hdv I hdc hdm hb hby hus
  go_enter Tryz.func20, Tryz.ntmps20
  go_wp2_with fail
  go_quiet (fail)
  go_wp2
  go_ret
  exact ⟨rfl, own, Ph, HR.out.drewN _, Frame.of_below (below_drewN _ _ _), rfl⟩
theorem sized_less (h : FSRep w B f own Ph S) (hB : B ≤ w.heap.size) (I : Inv S) (n : Int) (i : Ino) (hi : aget n S.inodes = some i) (size : Int) (h0 : 0 ≤ size) (h1 : size ≤ 4194304) (hno : ¬ (size - i.data.length > S.bytes - S.used)) (hle : size ≤ i.data.length) :
    Calls Tryz.prog 20 #[.pointer (some ⟨f, 0, none⟩), .pointer (some ⟨Ph.ib n, 0, none⟩), .int .i64 size] w fun e w' => e = .returned (.int .i64 (sizedS S n i size).1) ∧ UpdI w B f own Ph.ib (sizedS S n i size).2 w' := by
  rw [sizedS_ok hno, resized_le (by omega)]
  have HR := Lib.hid h
  have Hi := Lib.hid hi
  have HI := Lib.hid I
  have HB := Lib.hid hB
  have hI := h.inos n i hi
  have hfi : f ≠ Ph.ib n := (h.ino_ne hi hI.ok).symm
  have hif := hfi.symm
  obtain ⟨da, dc, hdv, hdc, hdm⟩ := row_slice hI.data
  have HDv := Lib.hid hdv
  have c1 := h.c.2.1
  have c3 := h.c.2.2.2.1
  have f3 := h.fz 3
  have k6 := hI.c.2.2.2.2.2.2.1
  have g6 := hI.fz 6
  rw [hdv] at k6
  have hb := (I.ino n i hi).1
  have hby := I.bytes
  have hus := I.used
  have hw1 : IntKind.i64.wrap (size - (i.data.length : Int)) = size - i.data.length := wrap_small (by omega) (by omega)
  have hw2 : IntKind.i64.wrap (S.bytes - S.used) = S.bytes - S.used := wrap_small (by omega) (by omega)
  have hw3 : IntKind.i64.wrap (S.used + (size - (i.data.length : Int))) = S.used + (size - (i.data.length : Int)) := wrap_small (by omega) (by omega)
  have hlt : ¬ (S.bytes - S.used < size - (i.data.length : Int)) := hno
  obtain ⟨k, rfl⟩ : ∃ k : Nat, size = k := ⟨size.toNat, by omega⟩
  have hdc' : (k : Int) ≤ (dc : Int) := by omega
  clear h hi hI hdv I hb hby hus
  go_enter Tryz.func20, Tryz.ntmps20
  go_wp2_with fail
  go_quiet (fail)
  go_wp2
  go_region
  go_wp2_with fail
  have h2 := (HR.out.drewN (nq + 1)).used_set (S.used + ((k : Int) - (i.data.length : Int)))
  have hI2 := h2.inos n i Hi.out
  refine (clone_bytes hI2.data.own (byteCells_one _) da dc k HDv.out (by omega) (by have := (HI.out.ino n i Hi.out).1; omega) dc).mono ?_
  rintro e w3 ⟨v, rfl, hown, hbl⟩
  have k63 := (hbl.cell (p := ⟨Ph.ib n, 6, none⟩) (h2.lt hI2.ok)).trans hI2.c.2.2.2.2.2.2.1
  have g63 := (hbl.frozen (p := ⟨Ph.ib n, 6, none⟩) (h2.lt hI2.ok)).trans (hI2.fz 6)
  have hsz := (Turned.setCell (w.drewN (nq + 1)) f 3 (.int .i64 (S.used + ((k : Int) - (i.data.length : Int))))).size
  have HU := Lib.hid (sized_end HR.out (S.used + ((k : Int) - (i.data.length : Int))) Hi.out (below_drewN _ _ (nq + 1)) (i.data.take k) (by
    have hl : (i.data.take k).length = k := by simp; omega
    rw [hl, byteCells_take]
    exact owns_base hown (Nat.le_trans HB.out (by rw [hsz]; exact Nat.le_refl _))) (Below.grownBy' hbl _) (fun g hg => .inr (by have := owns_ge hown hg; rw [hsz] at this; exact this)))
  obtain ⟨va, vc, rfl⟩ := owns_slice hown
  clear h2 hI2 hown hbl
  go_wp2
  go_ret
  exact ⟨rfl, HU.out⟩
set_option maxHeartbeats 1000000 in
set_option maxRecDepth 100000 in
theorem sized_more (h : FSRep w B f own Ph S) (hB : B ≤ w.heap.size) (I : Inv S) (n : Int) (i : Ino) (hi : aget n S.inodes = some i) (size : Int) (h0 : 0 ≤ size) (h1 : size ≤ 4194304) (hno : ¬ (size - i.data.length > S.bytes - S.used)) (hle : (i.data.length : Int) < size) :
    Calls Tryz.prog 20 #[.pointer (some ⟨f, 0, none⟩), .pointer (some ⟨Ph.ib n, 0, none⟩), .int .i64 size] w fun e w' => e = .returned (.int .i64 (sizedS S n i size).1) ∧ UpdI w B f own Ph.ib (sizedS S n i size).2 w' := by
  rw [sizedS_ok hno, resized_ge (by omega)]
  obtain ⟨i0, hi0, hz0, hz1, hz2⟩ := info_parts infoByte
  have HR := Lib.hid h
  have Hi := Lib.hid hi
  have HI := Lib.hid I
  have HB := Lib.hid hB
  have hI := h.inos n i hi
  have hfi : f ≠ Ph.ib n := (h.ino_ne hi hI.ok).symm
  have hif := hfi.symm
  obtain ⟨da, dc, hdv, hdc, hdm⟩ := row_slice hI.data
  have HDv := Lib.hid hdv
  have c1 := h.c.2.1
  have c3 := h.c.2.2.2.1
  have f3 := h.fz 3
  have k6 := hI.c.2.2.2.2.2.2.1
  have g6 := hI.fz 6
  rw [hdv] at k6
  have hb := (I.ino n i hi).1
  have Hb := Lib.hid hb
  have hby := I.bytes
  have hus := I.used
  have hw1 : IntKind.i64.wrap (size - (i.data.length : Int)) = size - i.data.length := wrap_small (by omega) (by omega)
  have hw2 : IntKind.i64.wrap (S.bytes - S.used) = S.bytes - S.used := wrap_small (by omega) (by omega)
  have hw3 : IntKind.i64.wrap (S.used + (size - (i.data.length : Int))) = S.used + (size - (i.data.length : Int)) := wrap_small (by omega) (by omega)
  have hlt : ¬ (S.bytes - S.used < size - (i.data.length : Int)) := hno
  obtain ⟨k, rfl⟩ : ∃ k : Nat, size = k := ⟨size.toNat, by omega⟩
  have hgt : ¬ ((k : Int) ≤ (i.data.length : Int)) := by omega
  clear h hi hI hdv I hb hby hus hB
  go_enter Tryz.func20, Tryz.ntmps20
  go_wp2_with fail
  go_quiet (fail)
  go_wp2
  go_region
  go_wp2_with fail
  have h2 := (HR.out.drewN (nq + 1)).used_set (S.used + ((k : Int) - (i.data.length : Int)))
  have H2 := Lib.hid h2
  have hI2 := h2.inos n i Hi.out
  have HI2 := Lib.hid hI2
  have k62 := hI2.c.2.2.2.2.2.2.1
  rw [HDv.out] at k62
  have g62 := hI2.fz 6
  have hsz : ((w.drewN (nq + 1)).setCell ⟨f, 3, none⟩ (.int .i64 (S.used + ((k : Int) - (i.data.length : Int))))).heap.size = w.heap.size := (Turned.setCell (w.drewN (nq + 1)) f 3 (.int .i64 (S.used + ((k : Int) - (i.data.length : Int))))).size
  have Hsz := Lib.hid hsz
  have Hk := Lib.hid h1
  clear h2 hI2 c1 c3 f3 k6 g6 hsz
  generalize hq : (w.drewN (nq + 1)).setCell ⟨f, 3, none⟩ (.int .i64 (S.used + ((k : Int) - (i.data.length : Int)))) = w2 at *
  go_region_law (refine step_append_zeros _ (by rfl) _ _ _ _ (by rfl) B 5 .i64 i0 (.int .u8 0) 1 Tryz.underlying40 Tryz.underlying3 hi0 hz0 hz1 hz2 rfl rfl (.slice da i.data.length dc) i.data.length (byteCells i.data) (by simp [Act.eval, Act.put]) (by have := HI2.out.data.own; rw [HDv.out] at this; exact this) (k - i.data.length) _ (by simp [Act.eval, Act.put]; rfl) (by omega) (by omega) (by omega) (by have := Hk.out; omega) (by unfold maxLen; have := Hk.out; omega) (by have := Hk.out; omega) (show B ≤ w2.heap.size by rw [Hsz.out]; exact HB.out) w2.heap.size (by simp) ?_; intro g cap w3 hown3 hgrow hat hlt3; have HG := Lib.hid hgrow; have HO := Lib.hid hown3; have HA := Lib.hid hat; have k63 : w3.cell? ⟨Ph.ib n, 6, none⟩ = some (.slice da i.data.length dc) := (hgrow.cell_far ⟨Ph.ib n, 6, none⟩ (H2.out.lt HI2.out.ok) (fun e => HI2.out.data_ne (by rw [HDv.out]; exact e.symm))).trans k62; have g63 : w3.frozen? ⟨Ph.ib n, 6, none⟩ = false := (hgrow.frozen_far ⟨Ph.ib n, 6, none⟩ (H2.out.lt HI2.out.ok) (fun e => HI2.out.data_ne (by rw [HDv.out]; exact e.symm))).trans g62; clear hgrow hown3 hat)
  all_goals
    go_wp2
    go_ret
    subst hq
    refine ⟨rfl, sized_end HR.out (S.used + ((k : Int) - (i.data.length : Int))) Hi.out (below_drewN _ _ (nq + 1)) (i.data ++ List.replicate (k - i.data.length) 0) ?_ ?_ (fun g' hg' => ?_)⟩
    · rw [byteCells_app, byteCells_zeros]
      have hl : (i.data ++ List.replicate (k - i.data.length) (0 : Int)).length = i.data.length + (k - i.data.length) := by simp
      rw [hl]
      exact HO.out
    · rw [HDv.out]
      exact ⟨HG.out.os, HG.out.tape, HG.out.output, HG.out.size, HG.out.block⟩
    · have e : g' = g := by simpa [Value.ownBlock] using hg'.symm
      subst e
      rw [HDv.out]
      exact HA.out.imp id fun e => by rw [e]; exact Nat.le_of_eq Hsz.out.symm
theorem sized_calls (h : FSRep w B f own Ph S) (hB : B ≤ w.heap.size) (I : Inv S) (n : Int) (i : Ino) (hi : aget n S.inodes = some i) (size : Int) (h0 : 0 ≤ size) (h1 : size ≤ 4194304) :
    Calls Tryz.prog 20 #[.pointer (some ⟨f, 0, none⟩), .pointer (some ⟨Ph.ib n, 0, none⟩), .int .i64 size] w fun e w' => e = .returned (.int .i64 (sizedS S n i size).1) ∧ UpdI w B f own Ph.ib (sizedS S n i size).2 w' := by
  by_cases hno : size - i.data.length > S.bytes - S.used
  · exact sized_no h I n i hi size h0 h1 hno
  · by_cases hle : size ≤ i.data.length
    · exact sized_less h hB I n i hi size h0 h1 hno hle
    · exact sized_more h hB I n i hi size h0 h1 hno (by omega)
end
end Go.Proofs.YtcjahipcfcghlaaGreatV

/- vfs: Resize. -/
namespace Go.Proofs.YtcjahipcfcghlaaGreatV
open Go.RowKit
set_option linter.unusedVariables false
set_option linter.unusedSimpArgs false
section
variable {w : World} {B f : Nat} {own : Nat → Option Int} {Ph : Phys} {S : FSt}
theorem sizedS_fail {node : Int} {i : Ino} {size : Int} (h : (sizedS S node i size).1 ≠ 0) : (sizedS S node i size) = (105, S) := by
  by_cases hno : size - i.data.length > S.bytes - S.used
  · exact sizedS_no hno
  · rw [sizedS_ok hno] at h
    exact absurd rfl h
theorem sizedS_good {node : Int} {i : Ino} {size : Int} (h : (sizedS S node i size).1 = 0) : (sizedS S node i size) = (0, setIno { S with used := S.used + (size - i.data.length) } node { i with data := resized i.data size.toNat }) := by
  by_cases hno : size - i.data.length > S.bytes - S.used
  · rw [sizedS_no hno] at h
    cases h
  · exact sizedS_ok hno
theorem resizeS_none {node size : Int} (hi : aget node S.inodes = none) : resizeS S node size = (100, S) := by unfold resizeS; rw [hi]
theorem resizeS_arg {node size : Int} {i : Ino} (hi : aget node S.inodes = some i) (h : size < 0 ∨ size > 4194304) : resizeS S node size = (1, S) := by unfold resizeS; rw [hi]; simp only [if_pos h]
theorem resizeS_kind {node size : Int} {i : Ino} (hi : aget node S.inodes = some i) (h : ¬ (size < 0 ∨ size > 4194304)) (hk : i.kind ≠ 2) : resizeS S node size = (106, S) := by unfold resizeS; rw [hi]; simp only [if_neg h, if_pos hk]
theorem resizeS_ok {node size : Int} {i : Ino} (hi : aget node S.inodes = some i) (h : ¬ (size < 0 ∨ size > 4194304)) (hk : i.kind = 2) :
    resizeS S node size = if (sizedS S node i size).1 = 0 then (0, doneS (sizedS S node i size).2 ⟨6, 0, noName, node, 0, noName, 0, size⟩) else ((sizedS S node i size).1, S) := by unfold resizeS; rw [hi]; simp only [if_neg h, if_neg (not_not_intro hk)]
end
end Go.Proofs.YtcjahipcfcghlaaGreatV
