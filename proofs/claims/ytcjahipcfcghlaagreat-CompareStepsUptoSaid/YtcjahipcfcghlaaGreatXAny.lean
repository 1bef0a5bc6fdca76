/- Words of our own: strings.ContainsAny of whatever string, for two ASCII signs. -/
import Derived.Test.YtcjahipcfcghlaaGreatShelf
import Derived.WalkSmall
import Derived.Lib.Hide
import Derived.KernelRfl
import Derived.Deep.LoopGhost
import Derived.Below
import Derived.Laws.RangeAny
import Derived.Laws.Runes
import Derived.Lib.OthersKept
import Derived.BigQuiet
import Derived.Deep.QuietTactic
namespace Go.Proofs.YtcjahipcfcghlaaGreatX
open Go.Shelf Go.RowKit Go.Lib
set_option linter.unusedVariables false
set_option linter.unusedSimpArgs false

set_option maxHeartbeats 2000000 in
set_option maxRecDepth 100000 in
theorem IndexRune_err (s : ByteArray) (w : World) (hascii : ∀ (j : Nat) b, s.data.toList[j]? = some b → b.toNat < 128) :
    Calls Tryz.prog 98 #[.string s, .int .i32 65533] w fun e w' => e = .returned (.int .i64 (-1)) ∧ ∃ pos, w' = w.iter s pos := by
  have HA : Aside (∀ (j : Nat) b, s.data.toList[j]? = some b → b.toNat < 128) := hascii
  clear hascii
  go_enter Tryz.func98, Tryz.ntmps98
  go_wp2
  go_loopg [5, 6] s.size (fun g _ _ wx => ∃ i : Nat, i + g = s.size ∧ wx = w.iter s i)
  case atStart => exact ⟨0, by omega, rfl⟩
  case round =>
    obtain ⟨i, hig, rfl⟩ := hrel
    cases gk with
    | zero =>
      obtain rfl : i = s.size := by omega
      have hnx := run_next_end (P := Tryz.prog) w s s.size
      go_wp2
      go_ret
      exact ⟨rfl, _, rfl⟩
    | succ g =>
      have hi : i < s.size := by omega
      obtain ⟨x, hx⟩ : ∃ x : UInt8, s[i]'hi = x := ⟨_, rfl⟩
      have hxl : s.data.toList[i]? = some x := by rw [← hx]; exact Lib.data_getElem? s i hi
      have hx128 : x.toNat < 128 := HA.out i x hxl
      have hnx := fun ty => run_next_ascii (P := Tryz.prog) w s i ty hi (by rw [hx]; exact hx128)
      rw [hx] at hnx
      have hne : ((x.toNat : Int) == 65533) = false := beq_eq_false_iff_ne.2 (by omega)
      clear hxl hx
      go_wp2
      go_roundg g
      case measure => omega
      case rel => exact ⟨i + 1, by omega, rfl⟩

set_option maxHeartbeats 4000000 in
set_option maxRecDepth 100000 in
theorem IndexRune_wide3 (s E : ByteArray) (r : Int) (w : World) (hs : s.size = 2) (h128 : 128 ≤ r) (hne : r ≠ 65533) (hvr : Lib.validRune r = true) (hE : 3 ≤ E.size) (hE4 : E.size ≤ 4) (hcv : ∀ w : World, (convert 21 9 (.int .i32 r)).run Tryz.prog w = .ok (.string E) w) :
    Calls Tryz.prog 98 #[.string s, .int .i32 r] w fun e w' => e = .returned (.int .i64 (-1)) ∧ w' = w := by
  have hb1 : (r == 65533) = false := beq_eq_false_iff_ne.2 hne
  have hb2 : decide (r < 128) = false := decide_eq_false (by omega)
  have hb3 : decide ((E.size : Int) - 1 < (s.size : Int)) = false := decide_eq_false (by omega)
  have HV := Lib.hid hvr
  clear hvr hne hs
  go_enter Tryz.func98, Tryz.ntmps98
  go_wp2_with (go_at_call 114; refine (Tryz.utf8_ValidRune _ _).mono ?_; rintro e w' ⟨rfl, hw⟩; rw [HV.out]; subst hw)
  go_step3
  go_wp2
  refine wp_loop_rounds 1 ?_
  rw [rounds_succ]
  go_wp2
  try rw [Exit.noGoto_ret]
  go_ret
  exact ⟨rfl, rfl⟩
/-- A second quiet region's call (the kit's page extra-small, section 2). -/
theorem quiet_add_same {P : Program} {f : FuncId} {args : Array Value} {w : World} {a n : Nat} {v : Value}
    (h : Calls P f args (w.drewN (a + n)) fun e w' => e = .returned v ∧ w' = w.drewN (a + n)) :
    Calls P f args (w.drewN (a + n)) fun e w'' => e = .returned v ∧ ∃ m, w'' = w.drewN (a + m) :=
  h.mono fun _ _ ⟨he, hm⟩ => ⟨he, n, hm⟩
theorem IndexByte_nil (t : ByteArray) (c : Int) (w : World) (ht : t.size = 0) : Calls Tryz.prog 105 #[.string t, .int .u8 c] w fun e w' => e = .returned (.int .i64 (-1)) ∧ w' = w :=
  (Tryz.strings_IndexByte t c w).mono fun e w' ⟨p, q⟩ => ⟨by
    have : t.data.toList = [] := List.eq_nil_of_length_eq_zero (by rw [← Lib.size_eq]; exact ht)
    rw [p, this]; rfl, q⟩
set_option maxHeartbeats 4000000 in
set_option maxRecDepth 100000 in
theorem IndexRune_wide2 (s E : ByteArray) (r : Int) (w : World) (hs : s.size = 2) (h128 : 128 ≤ r) (hne : r ≠ 65533) (hvr : Lib.validRune r = true) (hE : E.size = 2) (x y : UInt8) (hx : s[1]'(by omega) = x) (hy : E[1]'(by omega) = y) (hxy : ((x.toNat : Int) != (y.toNat : Int)) = true) (hcv : ∀ w : World, (convert 21 9 (.int .i32 r)).run Tryz.prog w = .ok (.string E) w) :
    Calls Tryz.prog 98 #[.string s, .int .i32 r] w fun e w' => e = .returned (.int .i64 (-1)) ∧ ∃ n, w' = w.drewN n := by
  have hb1 : (r == 65533) = false := beq_eq_false_iff_ne.2 hne
  have hb2 : decide (r < 128) = false := decide_eq_false (by omega)
  have hb3 : decide ((E.size : Int) - 1 < (s.size : Int)) = true := decide_eq_true (by omega)
  have HV := Lib.hid hvr
  clear hvr hne
  go_enter Tryz.func98, Tryz.ntmps98
  go_wp2_with (go_at_call 114; refine (Tryz.utf8_ValidRune _ _).mono ?_; rintro e w' ⟨rfl, hw⟩; rw [HV.out]; subst hw)
  go_step3
  go_wp2
  refine wp_loop_rounds 1 ?_
  rw [rounds_succ]
  go_wp2
  go_step3
  go_wp2
  go_quiet (fail)
  go_wp2
  have hw1 : IntKind.i64.wrap ((1 : Int) + 1) = 2 := by decide
  have hw2 : ((2 : Int) ≤ (s.size : Int)) := by omega
  have hw3 : (2 : Nat) ≤ s.size := by omega
  go_quiet ((go_at_call 105; exact quiet_add_same (IndexByte_nil _ _ _ (by first | (simp; done) | (simp; omega) | omega | (simp [hs]; done)))))
  go_wp2
  simp only [Exit.inBlock, Exit.then, Exit.noGoto]
  go_ret
  exact ⟨rfl, _, rfl⟩
theorem IndexRune_off (s : ByteArray) (r : Int) (w : World) (hs : s.size = 2) (hascii : ∀ (j : Nat) b, s.data.toList[j]? = some b → b.toNat < 128) (h128 : 128 ≤ r) (hv : r = 65533 ∨ Utf8.valid r = true) :
    Calls Tryz.prog 98 #[.string s, .int .i32 r] w fun e w' => e = .returned (.int .i64 (-1)) ∧ Below w.heap.size w w' := by
  by_cases hr : r = 65533
  · subst hr
    exact (IndexRune_err s w hascii).mono fun e w' ⟨p, pos, q⟩ => ⟨p, q ▸ (Below.refl _ _).alloc (Nat.le_refl _) _⟩
  · have hv : Utf8.valid r = true := hv.resolve_left hr
    obtain ⟨e1, e2, e3⟩ := encode_facts r hv h128
    have hcv : ∀ w : World, (convert 21 9 (.int .i32 r)).run Tryz.prog w = .ok (.string (Utf8.encode r)) w := fun w => run_convert_int_string w 21 9 .i32 r (by rw [Tryz.underlying21]; rfl) Tryz.underlying9
    have hvr : Lib.validRune r = true := by rw [← hv, validRune_eq]; rfl
    by_cases h3 : 3 ≤ (Utf8.encode r).size
    · exact (IndexRune_wide3 s _ r w hs h128 hr hvr h3 e2 hcv).mono fun e w' ⟨p, q⟩ => ⟨p, q ▸ Below.refl _ _⟩
    · have h2 : (Utf8.encode r).size = 2 := by omega
      have hx := hascii 1 (s[1]'(by omega)) (Lib.data_getElem? s 1 (by omega))
      have hy := e3 (by omega)
      have e1' : (Utf8.encode r).size - 1 = 1 := by omega
      simp only [e1'] at hy
      refine (IndexRune_wide2 s _ r w hs h128 hr hvr h2 (s[1]'(by omega)) ((Utf8.encode r)[1]'(by omega)) rfl rfl (bne_iff_ne.2 (by omega)) hcv).mono fun e w' ⟨p, n, q⟩ => ⟨p, q ▸ below_drewN (Below.refl _ _) n⟩
/-- What a decoding of whatever bytes gives. -/
theorem decode_ok (s : ByteArray) (pos : Nat) (h : pos < s.size) (ha : 128 ≤ (s[pos]'h).toNat) :
    ((Utf8.decode s pos).1 = 65533 ∨ Utf8.valid ((Utf8.decode s pos).1 : Int) = true) ∧ pos + (Utf8.decode s pos).2 ≤ s.size ∧ ∀ k, k < (Utf8.decode s pos).2 → ∀ hk : pos + k < s.size, 128 ≤ (s[pos + k]'hk).toNat := by
  have hn : ¬ (s[pos]'h).toNat < 128 := by omega
  have hg : ∀ k (hk : pos + k < s.size), s.get! (pos + k) = s[pos + k]'hk := fun k hk => get_at s (pos + k) hk
  have hb : ∀ k, (s.get! (pos + k)).toNat < 256 := fun k => (s.get! (pos + k)).toNat_lt
  have one : pos + 1 ≤ s.size ∧ ∀ k, k < 1 → ∀ hk : pos + k < s.size, 128 ≤ (s[pos + k]'hk).toNat := by
    refine ⟨by omega, fun k hk hk2 => ?_⟩
    obtain rfl : k = 0 := by omega
    exact ha
  have cont : ∀ k, (decide (pos + k < s.size) && (s.get! (pos + k)).toNat / 64 == 2) = true → ∃ hk : pos + k < s.size, 128 ≤ (s[pos + k]'hk).toNat := by
    intro k hk
    rw [Bool.and_eq_true, decide_eq_true_eq, beq_iff_eq] at hk
    refine ⟨hk.1, ?_⟩
    rw [← hg k hk.1]
    omega
  simp only [Utf8.decode, get_at s pos h, hn, if_false]
  split
  · rename_i h1
    rw [Bool.and_eq_true] at h1
    obtain ⟨c1, d1⟩ := cont 1 h1.2
    split
    · refine ⟨.inr ?_, by omega, fun k hk hk2 => ?_⟩
      · have := hb 1
        have h0 := (s[pos]'h).toNat_lt
        rw [validRune_eq]
        unfold validRune
        exact decide_eq_true (by simp only [beq_iff_eq] at h1; omega)
      · have : k = 0 ∨ k = 1 := by omega
        rcases this with rfl | rfl
        · exact ha
        · exact d1
    · exact ⟨.inl rfl, one⟩
  · split
    · rename_i h1
      rw [Bool.and_eq_true, Bool.and_eq_true] at h1
      obtain ⟨c1, d1⟩ := cont 1 h1.1.2
      obtain ⟨c2, d2⟩ := cont 2 h1.2
      split
      · rename_i hv
        rw [Bool.and_eq_true] at hv
        refine ⟨.inr hv.2, by omega, fun k hk hk2 => ?_⟩
        have : k = 0 ∨ k = 1 ∨ k = 2 := by omega
        rcases this with rfl | rfl | rfl
        · exact ha
        · exact d1
        · exact d2
      · exact ⟨.inl rfl, one⟩
    · split
      · rename_i h1
        rw [Bool.and_eq_true, Bool.and_eq_true, Bool.and_eq_true] at h1
        obtain ⟨c1, d1⟩ := cont 1 h1.1.1.2
        obtain ⟨c2, d2⟩ := cont 2 h1.1.2
        obtain ⟨c3, d3⟩ := cont 3 h1.2
        split
        · rename_i hv
          rw [Bool.and_eq_true] at hv
          refine ⟨.inr hv.2, by omega, fun k hk hk2 => ?_⟩
          have : k = 0 ∨ k = 1 ∨ k = 2 ∨ k = 3 := by omega
          rcases this with rfl | rfl | rfl | rfl
          · exact ha
          · exact d1
          · exact d2
          · exact d3
        · exact ⟨.inl rfl, one⟩
      · exact ⟨.inl rfl, one⟩
theorem below_iterAt {B : Nat} {w0 w : World} (h : Below B w0 w) (k : Nat) (s : ByteArray) (p : Nat) (hk : B ≤ k) : Below B w0 (w.iterAt k s p) :=
  h.trans ⟨rfl, rfl, rfl, by simp [World.iterAt], fun i hi => by
    show (w.heap.setIfInBounds k (.stringIter s p))[i]? = _
    rw [Array.getElem?_setIfInBounds]
    rw [if_neg (by omega)]⟩
theorem NoAny_high {s chars : List UInt8} {i n : Nat} (h : Lib.NoAny s chars i) (hc : ∀ b ∈ chars, b.toNat < 128) (hh : ∀ k, k < n → ∀ b, s[i + k]? = some b → 128 ≤ b.toNat) : Lib.NoAny s chars (i + n) := fun j b hj hb => by
  by_cases hji : j < i
  · exact h j b hji hb
  · have := hh (j - i) (by omega) b (by rw [show i + (j - i) = j from by omega]; exact hb)
    cases hx : chars.contains b with
    | false => rfl
    | true =>
      have := hc b (by simpa using hx)
      omega
set_option maxHeartbeats 4000000 in
set_option maxRecDepth 100000 in
theorem IndexAny_short (s chars : ByteArray) (w : World) (h2 : chars.size = 2) (h8 : s.size ≤ 8) (hascii : ∀ b ∈ chars.data.toList, b.toNat < 128) :
    Calls Tryz.prog 75 #[.string s, .string chars] w fun e w' => e = .returned (.int .i64 (Lib.indexAny s.data.toList chars.data.toList)) ∧ Below w.heap.size w w' := by
  have hascii' : ∀ (j : Nat) b, chars.data.toList[j]? = some b → b.toNat < 128 := fun j b hj => hascii b (List.mem_of_getElem? hj)
  have HA := Lib.hid hascii
  have HA' := Lib.hid hascii'
  clear hascii hascii'
  have hemp : chars.toList.isEmpty = false := by
    rw [Lib.toList_data]
    cases h : chars.data.toList with
    | nil => have := Lib.size_eq chars; rw [h, List.length_nil] at this; omega
    | cons _ _ => rfl
  have hn1 : ((chars.size : Int) == 1) = false := beq_eq_false_iff_ne.2 (by omega)
  have h8z : decide ((8 : Int) < (s.size : Int)) = false := decide_eq_false (by omega)
  have H2 := Lib.hid h2
  clear h2
  go_enter Tryz.func75, Tryz.ntmps75
  go_wp2_with (go_at_call 99; refine (Tryz.strings_shouldUseASCIISet _ _).mono ?_; rintro e w' ⟨rfl, hw⟩; rw [h8z]; subst hw)
  go_loopg [9, 10] s.size (fun g _ _ wx => ∃ i : Nat, s.size ≤ i + g ∧ i ≤ s.size ∧ wx.heap[w'.heap.size]? = some (.stringIter s i) ∧ Below w'.heap.size w' wx ∧ w'.heap.size < wx.heap.size ∧ Lib.NoAny s.data.toList chars.data.toList i)
  case atStart => exact ⟨0, by omega, by omega, World.iter_heap _ _ _, (Below.refl _ _).alloc (Nat.le_refl _) _, by simp [World.iter], Lib.NoAny.zero _ _⟩
  case round =>
    obtain ⟨i, hig, hile, hit, hbel, hlt, hno⟩ := hrel
    have HN := Lib.hid hno
    have HB := Lib.hid hbel
    have HI := Lib.hid hit
    clear hno hbel hit
    by_cases hi : i < s.size
    · have hdl := decode_le s i
      cases gk with
      | zero => omega
      | succ g =>
        obtain ⟨x, hx⟩ : ∃ x : UInt8, s[i]'hi = x := ⟨_, rfl⟩
        have hxl : s.data.toList[i]? = some x := by rw [← hx]; exact Lib.data_getElem? s i hi
        by_cases ha : x.toNat < 128
        · have hnx := fun ty => run_next_ascii_at (P := Tryz.prog) wr _ s i ty HI.out hi (by rw [hx]; exact ha)
          rw [hx] at hnx
          have HI2 := Lib.hid (iterAt_heap wr _ s i (i + 1) HI.out)
          have HB2 := Lib.hid (below_iterAt HB.out w'.heap.size s (i + 1) (Nat.le_refl _))
          have hlt2 : w'.heap.size < (wr.iterAt w'.heap.size s (i + 1)).heap.size := by simp [World.iterAt]; exact hlt
          have Hx := Lib.hid hxl
          have hcon := Lib.contains_iff_indexByte chars.data.toList x
          have hback : ((x.toNat : Int)).toNat.toUInt8 = x := by simp
          clear hxl hx hdl HI HB hlt
          cases hin : chars.data.toList.contains x
          · rw [hin] at hcon
            have hl : ¬ ((0 : Int) ≤ Lib.indexByte chars.data.toList x) := of_decide_eq_false hcon.symm
            have Hin := Lib.hid hin
            clear hcon hin
            go_wp2_with (go_at_call 98; refine (Tryz.strings_IndexRune_ascii _ _ _ (by omega) (by omega)).mono ?_; rintro e w1 ⟨rfl, hw⟩; rw [hw, hback])
            go_roundg g
            case measure => omega
            case rel => exact ⟨i + 1, by omega, by omega, HI2.out, HB2.out, hlt2, HN.out.succ Hx.out Hin.out⟩
          · rw [hin] at hcon
            have hl : ((0 : Int) ≤ Lib.indexByte chars.data.toList x) := of_decide_eq_true hcon.symm
            have Hin := Lib.hid hin
            clear hcon hin
            go_wp2_with (go_at_call 98; refine (Tryz.strings_IndexRune_ascii _ _ _ (by omega) (by omega)).mono ?_; rintro e w1 ⟨rfl, hw⟩; rw [hw, hback])
            go_ret
            exact ⟨by rw [Lib.indexAny_hit HN.out Hx.out Hin.out]; rfl, HB2.out⟩
        · have hnx := fun ty => run_next_any_at (P := Tryz.prog) wr _ s i ty HI.out hi
          have hd := decode_high s i hi (by rw [hx]; omega)
          obtain ⟨d1, d2, d3⟩ := decode_ok s i hi (by rw [hx]; omega)
          generalize Utf8.decode s i = dc at *
          obtain ⟨c, n⟩ := dc
          simp only at *
          have HI2 := Lib.hid (iterAt_heap wr _ s i (i + n) HI.out)
          have HB2 := Lib.hid (below_iterAt HB.out w'.heap.size s (i + n) (Nat.le_refl _))
          have hlt2 : w'.heap.size < (wr.iterAt w'.heap.size s (i + n)).heap.size := by simp [World.iterAt]; exact hlt
          have HN2 := Lib.hid (NoAny_high (n := n) HN.out HA.out (fun k hk b hb => by
            have hk2 : i + k < s.size := by
              rw [Lib.size_eq]; exact (List.getElem?_eq_some_iff.1 hb).1
            have := d3 k hk hk2
            rw [Lib.data_getElem? s (i + k) hk2] at hb
            cases hb
            exact this))
          have D1 := Lib.hid d1
          have hc1 : (128 : Int) ≤ (c : Int) := by omega
          have hn1p : 1 ≤ n := hd.2
          clear hxl hx hdl HI HB hlt d3 d1 hd
          go_wp2_with (go_at_call 98; refine (IndexRune_off _ _ _ H2.out HA'.out (by omega) (D1.out.imp (fun h => by omega) id)).mono ?_; rintro e w1 ⟨rfl, hw⟩; have HW := Lib.hid hw; clear hw)
          go_roundg g
          case measure => omega
          case rel => exact ⟨i + n, by omega, by omega, (HW.out.block _ hlt2).trans HI2.out, HB2.out.trans (HW.out.mono (Nat.le_of_lt hlt2)), Nat.lt_of_lt_of_le hlt2 HW.out.size, HN2.out⟩
    · obtain rfl : i = s.size := by omega
      have hnx := fun ty => run_next_end_at (P := Tryz.prog) wr _ s s.size ty HI.out hi
      go_wp2
      go_ret
      exact ⟨by rw [Lib.indexAny_none (by rw [← Lib.size_eq]; exact HN.out)]; rfl, HB.out⟩
theorem size_two {chars : ByteArray} (h2 : chars.size = 2) (hascii : ∀ b ∈ chars.data.toList, b.toNat < 128) : ∀ (j : Nat) b, chars.data.toList[j]? = some b → b.toNat < 128 := fun j b hj => hascii b (List.mem_of_getElem? hj)
theorem IndexAny_two (s chars : ByteArray) (w : World) (h2 : chars.size = 2) (hs : s.size < 4294967281) (hascii : ∀ b ∈ chars.data.toList, b.toNat < 128) :
    Calls Tryz.prog 75 #[.string s, .string chars] w fun e w' => e = .returned (.int .i64 (Lib.indexAny s.data.toList chars.data.toList)) ∧ Below w.heap.size w w' := by
  by_cases h8 : s.size ≤ 8
  · exact IndexAny_short s chars w h2 h8 hascii
  · refine (Tryz.strings_IndexAny_long (zero_of_info (by kernel_rfl : (Tryz.prog.info? 168).map (fun i => (i.zero, i.size)) = some (some (.agg (Array.replicate 256 (.bool false))), 256))).1 s chars w (by omega) (by omega) hs (by omega) (size_two h2 hascii)).mono fun e w' ⟨h1, h2⟩ => ⟨h1, ?_⟩
    rw [h2]
    exact ((Below.refl _ _).alloc (Nat.le_refl _) _).alloc (by simp) _
set_option maxHeartbeats 1000000 in
set_option maxRecDepth 100000 in
/-- strings.ContainsAny of whatever text, for two ASCII signs. -/
theorem ContainsAny_two (s chars : ByteArray) (w : World) (h2 : chars.size = 2) (hs : s.size < 4294967281) (hascii : ∀ b ∈ chars.data.toList, b.toNat < 128) :
    Calls Tryz.prog 51 #[.string s, .string chars] w fun e w' => e = .returned (.bool (Lib.containsAny s.data.toList chars.data.toList)) ∧ Below w.heap.size w w' := by
  have c := IndexAny_two s chars w h2 hs hascii
  have C := Lib.hid c
  clear c h2 hascii
  go_enter Tryz.func51, Tryz.ntmps51
  go_wp2_with (go_at_call 75; refine C.out.mono ?_; rintro e w' ⟨rfl, hw⟩)
  go_ret
  exact ⟨rfl, hw⟩
end Go.Proofs.YtcjahipcfcghlaaGreatX
