-- WRITTEN BY wip/xprint.py, a program of the proving session round the kit's print.py; Lean checks it.
import Derived.Test.YtbebdhaceifmoaaDoorPApplyChecksx0
namespace Go.Proofs.YtbebdhaceifmoaaDoor.PApplyChecks
open Go.Proofs.YtbebdhaceifmoaaDoorX
open Go.RowKit Go.Proofs.YtbebdhaceifmoaaDoorW.PrintWords Go.Proofs.YtbebdhaceifmoaaDoorW.PrintLast Go.Proofs.YtbebdhaceifmoaaDoorW.PrintMore
attribute [local go_sem] max2_int min2_int max_two min_two max_three min_three max_four min_four   -- for this text's walks alone
set_option linter.unusedVariables false
set_option linter.unusedSimpArgs false

/-! ### satchellaw19_lent: function 4 -/

theorem satchellaw19_lent.info : (Tryd.prog.info? 5).map (fun i => (i.zero, i.size, i.bytes)) = some (some (.int .u8 0), 1, 1) := by kernel_rfl
theorem satchellaw19_lent.made {P : Program} (t e : TypeId) (z : Value) (W : World) (m : Nat) (ht : P.underlying t = some (.slice e)) (hinfo : (P.info? e).map (fun i => (i.zero, i.size, i.bytes)) = some (some z, 1, 1)) (hm : m ≤ 281474976710656) :
    (Instr.makeSlice t (.int .i64 0) (.int .i64 (m : Int))).run P W = .ok (.slice (some ⟨W.heap.size, 0, none⟩) 0 m) (W.alloc (.cells (madeCells z.cells m) e)) := by
  obtain ⟨i0, hi, hzz⟩ := Option.map_eq_some_iff.1 hinfo
  simp only [Prod.mk.injEq] at hzz
  obtain ⟨hz0, hz1, hz2⟩ := hzz
  have hr := run_make (P := P) W t e i0 z ht hi hz0 .i64 .i64 0 (m : Int) (by omega) (by omega) (by rw [hz2]; omega) (by omega)
  simp only [Int.toNat_natCast, Int.toNat_zero] at hr
  rw [hz1, Nat.mul_one] at hr
  exact hr
theorem satchellaw19_lent.own {α : Type} {enc : α → Value} {h1 : ∀ x, (enc x).oneCell' = true} {ok : Nat → Prop} (W : World) (base e m : Nat) (cs : Array Value) (hs : cs.size = m) (hm : m ≤ maxLen) (hbase : base ≤ W.heap.size) (hok : ok W.heap.size) :
    (Kd.scalar enc h1).R e (W.alloc (.cells cs e)) base ok (.slice (some ⟨W.heap.size, 0, none⟩) 0 m) [] :=
  Kd.R_of_own ⟨by simp [encs], .inr ⟨W.heap.size, m, cs, rfl, hbase, (MapKept.heap_alloc W _).1, Nat.zero_le _, hm, by simp [hs], by simp [encs]⟩⟩ (fun k hk => by
    have : W.heap.size = k := by simpa [Value.ownBlock] using hk
    exact this ▸ hok)

def satchellaw19_lent.marks (n : Nat) : List Int := (List.range n).map fun (i : Nat) => (171 : Int) + (i : Int)
def satchellaw19_lent.f (l0 : List Int) : Option (List Int × List Int) := if l0.length ≤ 1099511627776 then some (l0, l0 ++ satchellaw19_lent.marks 32) else none
set_option maxHeartbeats 4000000 in
set_option maxRecDepth 100000 in
theorem satchellaw19_lent.calls (A0 : Option Addr) (c0 : Nat) (l0 : List Int) (r1 : List Int) (r2 : List Int) (w : World) (hG : Gv w) (hr0 : Kd.C (Kd.int .u8) w A0 l0.length l0) (hc0 : l0.length ≤ c0) (h : satchellaw19_lent.f l0 = some (r1, r2)) :
    Calls Tryd.prog 4 #[.slice A0 l0.length c0] w fun e w' => ∃ v0_ v1_ : Value, e = .returned (.tuple #[v0_, v1_]) ∧ Kd.V (Kd.int .u8) 5 w' w.heap.size (fun k_ => w.heap.size ≤ k_) v0_ r1 ∧ Kd.V (Kd.int .u8) 5 w' w.heap.size (fun k_ => w.heap.size ≤ k_) v1_ r2 ∧ Below w.heap.size w w' := by
  unfold satchellaw19_lent.f at h
  split at h
  rotate_left
  · cases h
  rename_i hlen
  obtain ⟨rfl, rfl⟩ := Prod.mk.injEq .. ▸ (Option.some.inj h)
  clear h
  have HB := Aside0.mk (Below.refl w.heap.size w)
  have HL := Aside0.mk hlen
  have HR0 := Aside0.mk hr0
  have HC0 := Aside0.mk hc0
  have HW : IntKind.i64.wrap ((l0.length : Int) + 32) = (l0.length : Int) + 32 := IntWalk.i64_in _ (by omega)
  clear hr0 hc0 hlen
  clear hG
  have h32 : IntKind.i64.wrap 32 = 32 := by decide
  have hcast : ((l0.length : Int) + 32) = ((l0.length + 32 : Nat) : Int) := by omega
  have hmk : ∀ W : World, (Instr.makeSlice 27 (.int .i64 0) (.int .i64 ((l0.length : Int) + 32))).run Tryd.prog W = .ok (.slice (some ⟨W.heap.size, 0, none⟩) 0 (l0.length + 32)) (W.alloc (.cells (madeCells (Value.int .u8 0).cells (l0.length + 32)) 5)) := fun W => by
    rw [hcast]
    exact satchellaw19_lent.made 27 5 _ W _ Tryd.underlying27 satchellaw19_lent.info (by have := HL.out; omega)
  have HO4 := Aside0.mk (satchellaw19_lent.own (enc := Value.int .u8) (h1 := fun _ => rfl) (ok := fun k => w.heap.size ≤ k) w w.heap.size 5 (l0.length + 32) (madeCells (Value.int .u8 0).cells (l0.length + 32)) (by have := size_madeCells (Value.int .u8 0).cells (l0.length + 32); simpa using this) (by have := HL.out; have h9 : maxLen = 9223372036854775807 := rfl; omega) (Nat.le_refl _) (Nat.le_refl _))
  have HB1 := Aside0.mk (below_alloc HB.out (.cells (madeCells (Value.int .u8 0).cells (l0.length + 32)) 5))
  have HR2 := Aside0.mk (Kd.C_below HR0.out HB1.out)
  clear HR0 HB hcast
  go_enter Tryd.func4, Tryd.ntmps4
  go_wp2_with (first
    | ((with_reducible refine gate_dst (N := 12) rfl ?_); at_builtin; refine Kd.R_append_row (Value.int .u8) (0 : Int) (h1 := fun _ => rfl) (w0 := w) w.heap.size rfl (.tmp 10) (.tmp 11) 27 5 (.int .u8 0) 1 rfl Tryd.underlying27 satchellaw19_lent.info rfl (by omega) _ [] l0 A0 l0.length c0 (fun k => w.heap.size ≤ k) rfl rfl ?_ HO4.out HR2.out HB1.out (below_size HB1.out) ?_ ?_; (case _ => exact fun k hk => Nat.le_trans (below_size HB1.out) hk); (case _ => have := HL.out; simp; omega); intro v6 w6 ho hb hg hat; have HO6 := Aside0.mk ho; clear HR2 HO4 HB1; have HB := Aside0.mk hb; clear ho hb hg hat))
  have HO7 : Aside0 (Kd.R (Kd.int .u8) 5 w6 w.heap.size (fun k => w.heap.size ≤ k) v6 (l0 ++ satchellaw19_lent.marks 0)) := ⟨by have := HO6.out; rw [show l0 ++ satchellaw19_lent.marks 0 = [] ++ l0 by simp [satchellaw19_lent.marks]]; exact this⟩
  clear HO6
  go_loopg [4, 5] 33 (fun kq v4 v5 w' => ∃ i : Nat, v5 = .int .i64 (i : Int) ∧ Aside0 (kq + i = 33) ∧ Aside0 (i ≤ 32) ∧ Aside0 (Kd.R (Kd.int .u8) 5 w' w.heap.size (fun k => w.heap.size ≤ k) v4 (l0 ++ satchellaw19_lent.marks i)) ∧ Aside0 (Below w.heap.size w w'))
  case atStart => exact ⟨0, rfl, ⟨rfl⟩, ⟨by omega⟩, HO7, HB⟩
  case round =>
    clear HO7 HB
    obtain ⟨i, rfl, HK, HI, HO, HB⟩ := hrel
    cases gk with
    | zero => have := HK.out; have := HI.out; omega
    | succ k1 =>
      by_cases c : (i : Int) < 32
      · have cb : decide ((i : Int) < 32) = true := decide_eq_true c
        have cc : decide (i < 32) = true := decide_eq_true (by omega)
        have e1 : IntKind.i64.wrap (171 + (i : Int)) = 171 + i := IntWalk.i64_in _ (by omega)
        have e2 : IntKind.u8.wrap (171 + (i : Int)) = 171 + i := by unfold IntKind.wrap; simp [IntKind.bits, IntKind.signed]; omega
        have e3 : IntKind.i64.wrap ((i : Int) + 1) = ((i + 1 : Nat) : Int) := by rw [IntWalk.i64_in _ (by omega)]; omega
        have C := Aside0.mk c
        clear c
        go_wp2_with (first | ((with_reducible refine gate_builtin (b := .append) (xs := #[.tmp 17, .tmp 21]) rfl ?_); at_builtin; refine Kd.R_append (Kd.int .u8) (w0 := w) w.heap.size rfl (.tmp 17) (.tmp 21) 27 5 (.int .u8 0) 1 rfl Tryd.underlying27 satchellaw19_lent.info rfl (by decide) (by omega) _ (l0 ++ satchellaw19_lent.marks i) (171 + (i : Int)) [.int .u8 (171 + (i : Int))] (fun k => w.heap.size ≤ k) (fun _ => False) rfl rfl ?aP (fun _ hk => hk.elim) ?aF HO.out HB.out (below_size HB.out) ?aL ?_; (case aP => exact rfl); (case aF => exact fun k hk => Nat.le_trans (below_size HB.out) hk); (case aL => have := HL.out; have := C.out; simp [satchellaw19_lent.marks]; omega); intro v9 w9 ho hb hg hat; have HO9 := Aside0.mk ho; clear HO HB; have HB := Aside0.mk hb; clear ho hb hg hat))
        go_roundg k1
        case measure => omega
        case rel => exact ⟨i + 1, by first | rfl | (simp [e3]; done), ⟨by have := HK.out; omega⟩, ⟨by have := C.out; omega⟩, ⟨by have := HO9.out; rw [List.append_assoc] at this; rw [show satchellaw19_lent.marks (i + 1) = satchellaw19_lent.marks i ++ [171 + (i : Int)] by simp [satchellaw19_lent.marks, List.range_succ]]; exact this⟩, HB⟩
      · have cb : decide ((i : Int) < 32) = false := decide_eq_false c
        have cc : decide (i < 32) = false := decide_eq_false (by omega)
        have hi : i = 32 := by have := HI.out; omega
        subst hi
        clear c
        have el : (l0 ++ satchellaw19_lent.marks 32).take (l0.length : Int).toNat = l0 := by simp
        have ell : l0.length ≤ (l0 ++ satchellaw19_lent.marks 32).length := by simp
        obtain ⟨m, hm⟩ : ∃ m, m = l0 ++ satchellaw19_lent.marks 32 := ⟨_, rfl⟩
        rw [← hm] at HO el ell
        have HM := Aside0.mk hm
        clear hm
        obtain ⟨A4, c4, rfl⟩ := Kd.R_slice HO.out
        obtain ⟨i0, hi0, _, hsz, _⟩ := info_parts satchellaw19_lent.info
        have hlc := (Kd.R_reads' HO.out).2.1
        obtain ⟨hT1, hT2, hT3⟩ := print_take_of (P := Tryd.prog) (Value.int .u8) 0 27 5 .i64 Tryd.underlying27 hi0 hsz A4 c4 m (l0.length : Int) (by omega) (by omega) hlc
        rw [el] at hT1 hT2 hT3
        have F2 := Aside0.mk (Kd.R_V (base' := w.heap.size) HO.out)
        have F1 : Aside0 (Kd.V (Kd.int .u8) 5 wr w.heap.size (fun k => w.heap.size ≤ k) (.slice A4 l0.length c4) l0) := ⟨Kd.V_mk hT3 (Kd.F_imp (Kd.V_at F2.out).2.2 (fun W' hc => Kd.C_of_reads (h1 := fun _ => rfl) (hT2 _ (Kd.reads_of_C (d := (0 : Int)) hc))))⟩
        clear hT2 hT3 el ell hi0 hsz HO hlc
        go_wp2
        go_ret2
        refine ⟨.slice A4 l0.length c4, .slice A4 m.length c4, rfl, by (with_reducible repeat (first | apply Kd.V_drewN | apply Kd.V_drew)); exact F1.out, by (with_reducible repeat (first | apply Kd.V_drewN | apply Kd.V_drew)); rw [← HM.out]; exact F2.out, by repeat (first | (with_reducible first | exact HB.out | apply below_alloc | apply pw_below_drewN | apply below_drew1) | exact HB.out)⟩


end Go.Proofs.YtbebdhaceifmoaaDoor.PApplyChecks
