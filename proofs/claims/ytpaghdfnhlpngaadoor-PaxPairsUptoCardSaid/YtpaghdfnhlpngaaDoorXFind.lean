/- pax.Find by hand: a range over slices.Backward. -/
import Derived.RangeFuncNested
import Derived.RangeFuncBound
import Derived.RangeFuncCalls
import Derived.RangeFuncLeaves
import Derived.Shelf.Abstract
import Derived.WalkKit
import Derived.OwnWalkIn
import Derived.TacticsInMore
import Derived.LoopNIn
import Derived.LoopIn
import Derived.Test.YtpaghdfnhlpngaaDoorProg
namespace Go.Proofs.YtpaghdfnhlpngaaDoorX
open Go.RowKit Go.Shelf
attribute [local go_sem] Oper.semAt_some
set_option linter.unusedVariables false
set_option linter.unusedSimpArgs false
structure AsideF (p : Prop) : Prop where
  out : p
def upto {α : Type} (f : Nat → α) (k : Nat) : List α := (List.range k).map f
theorem upto_succ {α : Type} (f : Nat → α) (k : Nat) : upto f (k + 1) = upto f k ++ [f k] := by simp [upto, List.range_succ]
theorem upto_length {α : Type} (f : Nat → α) (k : Nat) : (upto f k).length = k := by simp [upto]
abbrev Pr := ByteArray × ByteArray
theorem box_cell {W : World} {b : Nat} {v : Value} {t : TypeId} (h : W.heap[b]? = some (.cells #[v] t (0, 0))) : W.cell? ⟨b, 0, none⟩ = some v ∧ W.frozen? ⟨b, 0, none⟩ = false := by
  constructor <;> simp [World.cell?, World.frozen?, h]
theorem two_cells {W : World} {i j : Nat} {u v u0 v0 : Value} (hij : i ≠ j) (h1 : W.cell? ⟨i, 0, none⟩ = some u0) (h2 : W.cell? ⟨j, 0, none⟩ = some v0) :
    ((W.setCell ⟨i, 0, none⟩ u).setCell ⟨j, 0, none⟩ v).cell? ⟨i, 0, none⟩ = some u ∧ ((W.setCell ⟨i, 0, none⟩ u).setCell ⟨j, 0, none⟩ v).cell? ⟨j, 0, none⟩ = some v := by
  have hne : (⟨j, 0, none⟩ : Addr) ≠ ⟨i, 0, none⟩ := by intro e; cases e; exact hij rfl
  have hne' : (⟨i, 0, none⟩ : Addr) ≠ ⟨j, 0, none⟩ := by intro e; cases e; exact hij rfl
  constructor
  · rw [World.cell?_setCell_other _ _ _ _ hne]
    exact World.cell?_setCell_same' _ _ _ (by rw [h1]; rfl)
  · exact World.cell?_setCell_same' _ _ _ (by rw [World.cell?_setCell_other _ _ _ _ hne', h2]; rfl)
/-- The pairs zs lie at A. -/
def PairsAt (W : World) (A : Option Addr) (zs : List Pr) : Prop :=
  ∀ j (h : j < zs.length), ∃ ad, A = some ad ∧ W.cell? (ad.add (j * 2)) = some (.string zs[j].1) ∧ W.cell? ⟨(ad.add (j * 2)).block, (ad.add (j * 2)).off + 1, none⟩ = some (.string zs[j].2) ∧ (ad.add (j * 2)).block < W.heap.size
theorem PairsAt.below {w W : World} {A : Option Addr} {zs : List Pr} (h : PairsAt w A zs) (hb : Below w.heap.size w W) : PairsAt W A zs := fun j hj => by
  obtain ⟨ad, e, h1, h2, h3⟩ := h j hj
  exact ⟨ad, e, (hb.cell h3).trans h1, (hb.cell (p := ⟨_, _, none⟩) h3).trans h2, Nat.lt_of_lt_of_le h3 hb.size⟩
def back (zs : List Pr) (k : Nat) : Int × Pr := (((zs.length - 1 - k : Nat) : Int), zs[zs.length - 1 - k]?.getD (⟨#[]⟩, ⟨#[]⟩))
set_option maxRecDepth 100000 in
set_option maxHeartbeats 4000000 in
theorem back1_in (F : Fence) (n : Nat) (h48 : F.fn 48) (hro : F.round = none) (hn : 1 ≤ n) (l Bs n₀ : Nat) (hBn : Bs < n₀) (A : Option Addr) (c0 : Nat) (zs : List Pr) (hmax : zs.length ≤ 4611686018427387904) (w : World) (hw0 : w.heap.size ≤ n₀) (HR0 : PairsAt w A zs) (J Jx : List (Int × Pr) → World → Prop)
    (hY : ∀ pre (x : Int × Pr) W, J pre W → pre.length < zs.length → YieldAt F (n - 1) Tryd.prog l #[.int .i64 x.1, .agg #[.string x.2.1, .string x.2.2]] W fun e W' =>
      (e = .returned (.bool true) ∧ J (pre ++ [x]) W' ∧ Below n₀ W W') ∨ (e = .returned (.bool false) ∧ Jx (pre ++ [x]) W'))
    (W : World) (hwW : Below w.heap.size w W) (hBs : W.cell? ⟨Bs, 0, none⟩ = some (.slice A zs.length c0)) (h0 : J [] W) :
    CallsIn F n Tryd.prog 48 #[.func (.yield l) #[] #[], .pointer (some ⟨Bs, 0, none⟩)] W fun e W' => (∃ v, e = .returned v) ∧
      ((∃ ys, ys = upto (back zs) zs.length ∧ J ys W') ∨ (∃ pre, (∃ k, k ≤ zs.length ∧ pre = upto (back zs) k) ∧ Jx pre W')) := by
  have hsub : IntKind.i64.wrap ((zs.length : Int) - 1) = (zs.length : Int) - 1 := IntWalk.i64_in _ (by omega)
  have HR := AsideF.mk HR0
  have HM := AsideF.mk hmax
  clear HR0 hmax
  refine callsIn_of_wp Tryd.func48 rfl h48 ?_ hro
  simp only [Tryd.ntmps48, List.size_toArray, List.length_cons, List.length_nil, Nat.reduceAdd, Nat.reduceSub, Array.replicate_succ, Array.replicate_zero, List.push_toArray, List.append_toArray, List.nil_append, List.cons_append]
  gi_wp2
  gi_loopw [3] (fun i wr => ∃ (k m : Nat) (z : Int), k + m = zs.length ∧ i = .int .i64 z ∧ z = (m : Int) - 1 ∧ J (upto (back zs) k) wr ∧ AsideF (Below n₀ W wr))
    (fun i _ => (intOf i + 1).toNat)
  case atStart => exact ⟨0, zs.length, _, by omega, rfl, rfl, h0, ⟨Below.refl _ _⟩⟩
  case round =>
    obtain ⟨k, m, z, hk, rfl, hz, hJs, hnx⟩ := hrel
    have hBs' : wr.cell? ⟨Bs, 0, none⟩ = some (.slice A zs.length c0) := (hnx.out.cell (p := ⟨Bs, 0, none⟩) hBn).trans hBs
    cases m with
    | zero =>
      have hzb : decide (0 ≤ z) = false := decide_eq_false (by omega)
      clear hz
      gi_wp2
      go_end0
      exact ⟨⟨_, rfl⟩, .inl ⟨_, by rw [show zs.length = k by omega], hJs⟩⟩
    | succ j =>
      obtain rfl : z = (j : Int) := by omega
      clear hz
      have hlt : j < zs.length := by omega
      obtain ⟨ad, eA, e1, e2, _⟩ := HR.out.below (hwW.trans (hnx.out.mono hw0)) j hlt
      obtain ⟨x, hx⟩ : ∃ x, x = zs[j] := ⟨_, rfl⟩
      rw [← hx] at e1 e2
      have hbk : upto (back zs) (k + 1) = upto (back zs) k ++ [((j : Int), x)] := by
        rw [upto_succ]
        unfold back
        rw [show zs.length - 1 - k = j by omega, List.getElem?_eq_getElem hlt, hx]
        rfl
      have HX := AsideF.mk hbk
      clear hbk hx
      have hkk : k < zs.length := by omega
      subst eA
      obtain ⟨fn, tmps, assign, body, hy, hR⟩ := hY _ ((j : Int), x) wr hJs (by rw [upto_length]; exact hkk)
      dsimp only at hy hR
      have hcb : decide (0 ≤ (j : Int)) = true := decide_eq_true (by omega)
      have hsb : IntKind.i64.wrap ((j : Int) - 1) = (j : Int) - 1 := IntWalk.i64_in _ (by have := HM.out; omega)
      gi_wp2
      refine hR.mono ?_
      rintro e W3 (⟨rfl, hJ3, hk3⟩ | ⟨rfl, hJx3⟩)
      · gi_wp2
        go_roundw
        case rel => exact ⟨k + 1, j, _, by omega, rfl, by first | rfl | simp [hsb], by rw [HX.out]; exact hJ3, ⟨hnx.out.trans hk3⟩⟩
        case measure => simp [intOf, hsb]
      · gi_wp2
        refine bodyPost_ret (results_none rfl _ _ _) rfl ?_
        exact ⟨⟨_, rfl⟩, .inr ⟨_, ⟨k + 1, by omega, HX.out.symm⟩, hJx3⟩⟩
set_option maxHeartbeats 1000000 in
theorem back_in (F : Fence) (n : Nat) (h31 : F.fn 31) (hro : F.round = none) (a : Option Addr) (len cap : Nat) (w : World) :
    CallsIn F n Tryd.prog 31 #[.slice a len cap] w fun e w' => e = .returned (.func (.func 48) #[] #[.pointer (some ⟨w.heap.size, 0, none⟩)]) ∧ w' = w.alloc (.cells #[.slice a len cap] 22) := by
  refine callsIn_of_wp Tryd.func31 rfl h31 ?_ hro
  simp only [Tryd.ntmps31, List.size_toArray, List.length_cons, List.length_nil, Nat.reduceAdd, Nat.reduceSub, Array.replicate_succ, Array.replicate_zero, List.push_toArray, List.append_toArray, List.nil_append, List.cons_append]
  gi_wp2
  go_ret
  exact ⟨rfl, rfl⟩
theorem back_stops (F : Fence) (n : Nat) (h48 : F.fn 48) (hro : F.round = none) (hn : 1 ≤ n) (Bs : Nat) (A : Option Addr) (c0 : Nat) (zs : List Pr) (hmax : zs.length ≤ 4611686018427387904) (w W0 : World) (HR0 : PairsAt w A zs) (hw : Below w.heap.size w W0) (hBs : Bs < W0.heap.size)
    (hc : W0.cell? ⟨Bs, 0, none⟩ = some (.slice A zs.length c0)) :
    SeqStopsK F n Tryd.prog 48 #[.pointer (some ⟨Bs, 0, none⟩)] (fun x : Int × Pr => #[Value.int .i64 x.1, Value.agg #[.string x.2.1, .string x.2.2]]) (Below W0.heap.size) (fun ys => ys = upto (back zs) zs.length)
      (fun pre => ∃ k, k ≤ zs.length ∧ pre = upto (back zs) k) zs.length W0 := fun l J Jx W hW _ _ hY h0 =>
  back1_in F n h48 hro hn l Bs W0.heap.size hBs A c0 zs hmax w hw.size HR0 J Jx hY W (hw.trans (hW.mono hw.size)) ((hW.cell (p := ⟨Bs, 0, none⟩) hBs).trans hc) h0
def hit (key : ByteArray) (p : Pr) : Bool := p.1.toList == key.toList
def findS (zs : List Pr) (key : ByteArray) : ByteArray × Bool := match zs.reverse.find? (hit key) with
  | some p => (p.2, true)
  | none => (⟨#[]⟩, false)
theorem upto_snd (zs : List Pr) : ∀ k, k ≤ zs.length → (upto (back zs) k).map (·.2) = zs.reverse.take k
  | 0, _ => rfl
  | k + 1, h => by
    have hk : k < zs.reverse.length := by rw [List.length_reverse]; omega
    rw [upto_succ, List.map_append, upto_snd zs k (by omega), List.take_add_one, List.getElem?_eq_getElem hk, List.getElem_reverse]
    have : zs.length - 1 - k < zs.length := by omega
    simp [back, this]
theorem find_miss {zs : List Pr} {key : ByteArray} (h : ∀ x ∈ upto (back zs) zs.length, hit key x.2 = false) : findS zs key = (⟨#[]⟩, false) := by
  have e : zs.reverse.find? (hit key) = none := by
    rw [List.find?_eq_none]
    intro p hp
    have h1 := upto_snd zs zs.length (Nat.le_refl _)
    rw [List.take_of_length_le (by simp)] at h1
    rw [← h1] at hp
    obtain ⟨x, hx, rfl⟩ := List.mem_map.1 hp
    rw [h x hx]
    decide
  unfold findS
  rw [e]
theorem find_hit {zs : List Pr} {key : ByteArray} {k : Nat} {ini : List (Int × Pr)} {last : Int × Pr} (hk : k ≤ zs.length) (he : upto (back zs) k = ini ++ [last]) (h : ∀ x ∈ ini, hit key x.2 = false) (hl : hit key last.2 = true) : findS zs key = (last.2.2, true) := by
  have h1 := upto_snd zs k hk
  rw [he, List.map_append] at h1
  have e : zs.reverse.find? (hit key) = some last.2 := by
    rw [← List.take_append_drop k zs.reverse, ← h1, List.find?_append, List.find?_append]
    have e1 : (ini.map (·.2)).find? (hit key) = none := by
      rw [List.find?_eq_none]
      intro p hp
      obtain ⟨x, hx, rfl⟩ := List.mem_map.1 hp
      rw [h x hx]
      decide
    rw [e1]
    simp [hl]
  unfold findS
  rw [e]
set_option maxRecDepth 100000 in
set_option maxHeartbeats 4000000 in
theorem find_in (F : Fence) (n : Nat) (h12 : F.fn 12) (h31 : F.fn 31) (h48 : F.fn 48) (hro : F.round = none) (hn : 3 ≤ n) (A : Option Addr) (c0 : Nat) (zs : List Pr) (hmax : zs.length ≤ 4611686018427387904) (key : ByteArray) (w : World) (HR0 : PairsAt w A zs) :
    CallsIn F n Tryd.prog 12 #[.slice A zs.length c0, .string key] w fun e W' => e = .returned (.tuple #[.string (findS zs key).1, .bool (findS zs key).2]) ∧ Below w.heap.size w W' := by
  have h1 : 1 ≤ n := by omega
  refine callsIn_of_wp_marks Tryd.func12 rfl h12 ?_ hro
  simp only [Tryd.ntmps12, List.size_toArray, List.length_cons, List.length_nil, Nat.reduceAdd, Nat.reduceSub, Array.replicate_succ, Array.replicate_zero, List.push_toArray, List.append_toArray, List.nil_append, List.cons_append]
  gi_wp2_with (gi_at_call 31; refine (back_in F (n - 1) h31 hro _ _ _ _).mono ?_; rintro e w' ⟨rfl, rfl⟩)
  obtain ⟨W0, hW0⟩ : ∃ W0, (((w.alloc (.cells #[.string key] 9)).alloc (.cells #[.string ⟨#[]⟩] 9)).alloc (.cells #[.bool false] 4)).alloc (.cells #[.slice A zs.length c0] 22) = W0 := ⟨_, rfl⟩
  have hs0 : W0.heap.size = w.heap.size + 1 + 1 + 1 + 1 := by rw [← hW0]; simp
  have hb0 : W0.heap[w.heap.size]? = some (.cells #[.string key] 9 (0, 0)) := by
    rw [← hW0]; exact (((Below.heap_alloc _ _ _ (by first | (simp; done) | (simp; omega))).trans (Below.heap_alloc _ _ _ (by first | (simp; done) | (simp; omega)))).trans (Below.heap_alloc _ _ _ (by simp))).trans (World.alloc_heap_new w _)
  have hb1 : W0.heap[w.heap.size + 1]? = some (.cells #[.string ⟨#[]⟩] 9 (0, 0)) := by
    rw [← hW0]; refine ((Below.heap_alloc _ _ _ (by first | (simp; done) | (simp; omega))).trans (Below.heap_alloc _ _ _ (by simp))).trans ?_
    have := World.alloc_heap_new (w.alloc (.cells #[.string key] 9)) (.cells #[.string ⟨#[]⟩] 9); rwa [World.size_alloc] at this
  have hb2 : W0.heap[w.heap.size + 1 + 1]? = some (.cells #[.bool false] 4 (0, 0)) := by
    rw [← hW0]; refine (Below.heap_alloc _ _ _ (by simp)).trans ?_
    have := World.alloc_heap_new ((w.alloc (.cells #[.string key] 9)).alloc (.cells #[.string ⟨#[]⟩] 9)) (.cells #[.bool false] 4); rwa [World.size_alloc, World.size_alloc] at this
  have hb3 : W0.heap[w.heap.size + 1 + 1 + 1]? = some (.cells #[.slice A zs.length c0] 22 (0, 0)) := by
    rw [← hW0]; have := World.alloc_heap_new (((w.alloc (.cells #[.string key] 9)).alloc (.cells #[.string ⟨#[]⟩] 9)).alloc (.cells #[.bool false] 4)) (.cells #[.slice A zs.length c0] 22); rwa [World.size_alloc, World.size_alloc, World.size_alloc] at this
  have hB0 : Below w.heap.size w W0 := by rw [← hW0]; exact (((((Below.refl _ w).alloc (Nat.le_refl _) _).alloc (by simp) _).alloc (by first | (simp; done) | (simp; omega)) _).alloc (by first | (simp; done) | (simp; omega)) _)
  have H0 := AsideF.mk hb0
  have H1 := AsideF.mk hb1
  have H2 := AsideF.mk hb2
  have H3 := AsideF.mk hb3
  have HB0 := AsideF.mk hB0
  have HS0 := AsideF.mk hs0
  have HR := AsideF.mk HR0
  rw [hW0]
  clear hW0 hb0 hb1 hb2 hb3 hB0 HR0
  refine wpIn_rangeFunc_ownH hro h1 (gf := 48) (lb := #[.pointer (some ⟨w.heap.size + 1 + 1 + 1, 0, none⟩)]) rfl h48 (enters_of Tryd.func48 (by kernel_rfl) rfl)
    (back_stops F (n - 1) h48 hro (by omega) (w.heap.size + 1 + 1 + 1) A c0 zs hmax w W0 HR.out HB0.out (by omega) (box_cell H3.out).1) belowK_t (belowK_b (Nat.le_refl _)) (Below.refl _ _) (fun _ => rfl)
    (fun (pre : List (Int × Pr)) W => (∀ x ∈ pre, hit key x.2 = false) ∧ Below W0.heap.size W0 W)
    (fun c pre W => (c = .ret ∧ ∃ ini last, pre = ini ++ [last] ∧ (∀ x ∈ ini, hit key x.2 = false) ∧ hit key last.2 = true ∧ W.cell? ⟨w.heap.size + 1, 0, none⟩ = some (.string last.2.2) ∧ W.cell? ⟨w.heap.size + 1 + 1, 0, none⟩ = some (.bool true)) ∧ Below w.heap.size w W)
    (OwnFrom.and (ownFrom_pure _ (fun (pre : List (Int × Pr)) => ∀ x ∈ pre, hit key x.2 = false)) (ownFrom_below (Nat.le_refl _) (Nat.le_refl _)))
    (fun c => OwnFrom.and (Own.from (fun s A B row hs hg hr => by obtain ⟨hc, ini, last, e1, e2, e3, e4, e5⟩ := hs; exact ⟨hc, ini, last, e1, e2, e3, cell_kept e4 hg hr, cell_kept e5 hg hr⟩) _) (ownFrom_below (Nat.le_refl _) (by omega)))
    ⟨by simp, Below.refl _ _⟩
    (fun x a' W => ∃ Bx, W0.heap.size ≤ Bx ∧ W.cell? ⟨Bx, 0, none⟩ = some (.string x.2.1) ∧ W.cell? ⟨Bx, 1, none⟩ = some (.string x.2.2) ∧ a' = { tmps := #[.slice A zs.length c0, .string key, undef, .pointer (some ⟨w.heap.size, 0, none⟩), .pointer (some ⟨w.heap.size + 1, 0, none⟩), .pointer (some ⟨w.heap.size + 1 + 1, 0, none⟩), undef, .pointer (some ⟨Bx, 0, none⟩), .slice A zs.length c0, .func (.func 48) #[] #[.pointer (some ⟨w.heap.size + 1 + 1 + 1, 0, none⟩)], .int .i64 x.1, .agg #[.string x.2.1, .string x.2.2], undef, undef, undef, undef, undef, undef], defers := [] })
    (fun x a' _ X Y row hs hg hr => by obtain ⟨Bx, h1, h2, h3, h4⟩ := hs; exact ⟨Bx, h1, cell_kept h2 hg (fun r e => (hr r e).2), cell_kept h3 hg (fun r e => (hr r e).2), h4⟩)
    ?assign ?body ?done ?stop
  case assign =>
    rintro l pre x W K ⟨hp, hB1⟩ hK
    gi_wp2
    exact hK _ _ ((KeepsOthers.alloc _ _).from _) ((Below.refl _ W).alloc hB1.size _) ⟨hp, hB1.alloc hB1.size _⟩ ⟨W.heap.size, hB1.size, by rw [World.cell?_alloc_new]; rfl, by rw [World.cell?_alloc_new]; rfl, rfl⟩
  case body =>
    rintro l pre x a' W hl ⟨r, hr⟩ ⟨hp, hB1⟩ ⟨Bx, hBx, cx0, cx1, rfl⟩ hlt
    have k0 : W.cell? ⟨w.heap.size, 0, none⟩ = some (.string key) := (hB1.cell (p := ⟨w.heap.size, 0, none⟩) (by simp; omega)).trans (box_cell H0.out).1
    have k1 : W.cell? ⟨w.heap.size + 1, 0, none⟩ = some (.string ⟨#[]⟩) := (hB1.cell (p := ⟨w.heap.size + 1, 0, none⟩) (by simp; omega)).trans (box_cell H1.out).1
    have f1 : W.frozen? ⟨w.heap.size + 1, 0, none⟩ = false := (hB1.frozen (p := ⟨w.heap.size + 1, 0, none⟩) (by simp; omega)).trans (box_cell H1.out).2
    have k2 : W.cell? ⟨w.heap.size + 1 + 1, 0, none⟩ = some (.bool false) := (hB1.cell (p := ⟨w.heap.size + 1 + 1, 0, none⟩) (by simp; omega)).trans (box_cell H2.out).1
    have f2 : W.frozen? ⟨w.heap.size + 1 + 1, 0, none⟩ = false := (hB1.frozen (p := ⟨w.heap.size + 1 + 1, 0, none⟩) (by simp; omega)).trans (box_cell H2.out).2
    have hBw := HB0.out.trans (hB1.mono HB0.out.size)
    by_cases hx : hit key x.2 = true
    · have hxe : (x.2.1.toList == key.toList) = true := hx
      gi_wp2
      refine ⟨((KeepsOthers.setCell _ _ _).trans (KeepsOthers.setCell _ _ _)).from _, ⟨rfl, pre, x, rfl, hp, hx, ?_, ?_⟩, (hBw.setCell (p := ⟨w.heap.size + 1, 0, none⟩) (by simp) _).setCell (p := ⟨w.heap.size + 1 + 1, 0, none⟩) (by simp; omega) _⟩
      · exact (two_cells (by omega) k1 k2).1
      · exact (two_cells (by omega) k1 k2).2
    · have hxe : (x.2.1.toList == key.toList) = false := by simpa [hit] using hx
      gi_wp2
      exact ⟨KeepsFrom.refl _ _, Below.refl _ _, ⟨fun p hp' => (List.mem_append.1 hp').elim (hp p) (fun e => by simp at e; subst e; simpa using hx), hB1⟩⟩
  case done =>
    rintro D ys W hD rfl ⟨hne, hB⟩ hK
    have k1 : W.cell? ⟨w.heap.size + 1, 0, none⟩ = some (.string ⟨#[]⟩) := (hB.cell (p := ⟨w.heap.size + 1, 0, none⟩) (by simp; omega)).trans (box_cell H1.out).1
    have f1 : W.frozen? ⟨w.heap.size + 1, 0, none⟩ = false := (hB.frozen (p := ⟨w.heap.size + 1, 0, none⟩) (by simp; omega)).trans (box_cell H1.out).2
    have k2 : W.cell? ⟨w.heap.size + 1 + 1, 0, none⟩ = some (.bool false) := (hB.cell (p := ⟨w.heap.size + 1 + 1, 0, none⟩) (by simp; omega)).trans (box_cell H2.out).1
    have f2 : W.frozen? ⟨w.heap.size + 1 + 1, 0, none⟩ = false := (hB.frozen (p := ⟨w.heap.size + 1 + 1, 0, none⟩) (by simp; omega)).trans (box_cell H2.out).2
    have hBw := HB0.out.trans (hB.mono HB0.out.size)
    gi_wp2
    have hK' := ((KeepsOthers.setCell W ⟨w.heap.size + 1, 0, none⟩ (.string ⟨#[]⟩)).trans (KeepsOthers.setCell _ ⟨w.heap.size + 1 + 1, 0, none⟩ (.bool false))).same D _ hK rfl
    refine ⟨by simp, .inl ⟨_, _, rfl, run_takeDeferred hK', ?_⟩⟩
    have ca := (two_cells (u := .string ⟨#[]⟩) (v := .bool false) (show w.heap.size + 1 ≠ w.heap.size + 1 + 1 by omega) k1 k2).1
    have cb := (two_cells (u := .string ⟨#[]⟩) (v := .bool false) (show w.heap.size + 1 ≠ w.heap.size + 1 + 1 by omega) k1 k2).2
    have hc4 := cell_kept ca (grownBy_putObj' _ D (.deferred none)) (fun r e => by cases e; exact ⟨_, hK', rfl⟩)
    have hc5 := cell_kept cb (grownBy_putObj' _ D (.deferred none)) (fun r e => by cases e; exact ⟨_, hK', rfl⟩)
    refine ⟨.tuple #[.string ⟨#[]⟩, .bool false], ?_, by rw [find_miss hne], ((hBw.setCell (p := ⟨w.heap.size + 1, 0, none⟩) (by simp) _).setCell (p := ⟨w.heap.size + 1 + 1, 0, none⟩) (by simp; omega) _).trans (belowK_b (w := w) (Nat.le_refl _) _ D _ _ (by omega) hK' rfl rfl)⟩
    simp [results, Tryd.f12, go_sem, hc4, hc5]
  case stop =>
    rintro D c pre W hD ⟨k, hk, rfl⟩ ⟨⟨rfl, ini, last, e1, e2, e3, e4, e5⟩, hB⟩ hK
    gi_wp2
    refine ⟨by simp, .inl ⟨_, _, rfl, run_takeDeferred hK, ?_⟩⟩
    have hc4 := cell_kept e4 (grownBy_putObj' _ D (.deferred none)) (fun r e => by cases e; exact ⟨_, hK, rfl⟩)
    have hc5 := cell_kept e5 (grownBy_putObj' _ D (.deferred none)) (fun r e => by cases e; exact ⟨_, hK, rfl⟩)
    have hf := find_hit hk e1 e2 e3
    refine ⟨.tuple #[.string last.2.2, .bool true], ?_, by rw [hf], hB.trans (belowK_b (w := w) (Nat.le_refl _) W D _ _ (by omega) hK rfl rfl)⟩
    simp [results, Tryd.f12, go_sem, hc4, hc5]
end Go.Proofs.YtpaghdfnhlpngaaDoorX
