/- The law PaxBack: what is printed is parsed; what is parsed is printed so, or shorter. -/
import Derived.Test.YtohgoaiimhhckaaDoorBkRef
import Derived.Test.YtohgoaiimhhckaaDoorBkPrint
import Derived.Test.YtohgoaiimhhckaaDoorXOpen
namespace Go.Proofs.YtohgoaiimhhckaaDoor.PaxBridge
open Go.RowKit Go.Proofs.YtohgoaiimhhckaaDoor.PPaxBack Go.Proofs.YtohgoaiimhhckaaDoorW.PrintWords Go.Proofs.YtohgoaiimhhckaaDoorW.PrintLast Go.Proofs.YtohgoaiimhhckaaDoor.PaxSpec
set_option linter.unusedVariables false

theorem lives_at : satchellaw14_lives.f 60 = some true := by decide +kernel
theorem lives_f (k : Nat) (hk : 60 ≤ k) : satchellaw14_lives.f k = some true := by
  obtain ⟨d, rfl⟩ := Nat.exists_eq_add_of_le hk
  induction d with
  | zero => exact lives_at
  | succ d ih => exact satchellaw14_lives.mono _ _ (ih (by omega))
theorem same_l0 (l : List S59) (hl : l.length ≤ 4398046511104) (d : Nat) : ∀ (k q : Nat), q + d = l.length → d + 1 ≤ k → satchellaw14_same.l0 k l l q = some true := by
  induction d with
  | zero =>
    intro k q hq hk
    obtain ⟨k, rfl⟩ : ∃ m, k = m + 1 := ⟨k - 1, by omega⟩
    simp only [satchellaw14_same.l0]
    rw [if_neg (by omega)]
  | succ d ih =>
    intro k q hq hk
    obtain ⟨k, rfl⟩ : ∃ m, k = m + 1 := ⟨k - 1, by omega⟩
    have e3 : wrap64 ((q : Int) + 1) = ((q + 1 : Nat) : Int) := (w64 (by omega) (by omega)).trans (by omega)
    simp only [satchellaw14_same.l0, e3]
    clear e3
    rw [if_pos (by omega), if_pos (by omega), if_pos (by omega), if_neg (by simp)]
    exact ih k (q + 1) (by omega) (by omega)
theorem same_f (l : List S59) (hl : l.length ≤ 4398046511104) (k : Nat) (hk : l.length + 1 ≤ k) : satchellaw14_same.f k l l = some true := by
  unfold satchellaw14_same.f
  rw [if_pos rfl]
  exact same_l0 l hl l.length k 0 (by omega) hk
theorem parseS_fault : ∀ (f : Nat) (b : List Int) (p a : Nat) (w : Int), parseS f b p = .fault a w → w ≠ 0 ∧ p ≤ a ∧ a ≤ p + b.length
  | 0, b, p, a, w, h => by simp [parseS] at h
  | f + 1, [], p, a, w, h => by simp [parseS] at h
  | f + 1, x :: b, p, a, w, h => by
    rw [parseS_cons] at h
    cases hR : recS (x :: b) with
    | fault a' w' =>
      rw [hR] at h
      simp only [PR.fault.injEq] at h
      obtain ⟨rfl, rfl⟩ := h
      have := recS_fault hR
      exact ⟨this.2, by omega, by omega⟩
    | ok k v n =>
      rw [hR] at h
      simp only at h
      obtain ⟨h5, hn⟩ := recS_ok hR
      cases hq : parseS f ((x :: b).drop n) (p + n) with
      | fault a' w' =>
        rw [hq] at h
        simp only [PR.fault.injEq] at h
        obtain ⟨rfl, rfl⟩ := h
        have := parseS_fault f _ _ _ _ hq
        rw [List.length_drop] at this
        omega
      | ok ll => rw [hq] at h; cases h
theorem strOf_bytes (s : ByteArray) : strOfNums (bytesOf s) = s := by
  apply ByteArray.ext
  apply Array.ext'
  simp [strOfNums, bytesOf, List.map_map, Function.comp_def]
theorem bytes_strOf (l : List Int) (h : Bytes8 l) : bytesOf (strOfNums l) = l := by
  unfold bytesOf strOfNums
  simp only [List.map_map]
  refine (List.map_congr_left fun x hx => ?_).trans (List.map_id l)
  have := h x hx
  simp only [Function.comp, id]
  rw [UInt8.toNat_ofNat']
  omega
theorem decI_bytes (n : Nat) : Bytes8 (decI n) := fun x hx => by have := decI_dig n x hx; omega
theorem bytesOf_bytes (a : ByteArray) : Bytes8 (bytesOf a) := fun x hx => by
  unfold bytesOf at hx
  obtain ⟨b, _, rfl⟩ := List.mem_map.1 hx
  have := b.toNat_lt
  omega
theorem recP_bytes (x : S59) : Bytes8 (recP x) := by
  intro y hy
  unfold recP recT at hy
  simp only [List.mem_append, List.mem_cons, List.mem_nil_iff, or_false] at hy
  rcases hy with h | h | h | h | h | h
  · exact decI_bytes _ y h
  · omega
  · exact bytesOf_bytes _ y h
  · omega
  · exact bytesOf_bytes _ y h
  · omega
theorem flat_bytes (l : List S59) : Bytes8 (l.flatMap recP) := fun y hy => by
  obtain ⟨x, _, hx⟩ := List.mem_flatMap.1 hy
  exact recP_bytes x y hx
theorem flat_len (l : List S59) (hb : totS l < 9000000) : (l.flatMap recP).length ≤ totS l := by
  induction l with
  | nil => simp
  | cons x l ih =>
    simp only [totS] at hb
    have h1 := ih (by omega)
    have h2 := recP_len x (by omega)
    rw [List.flatMap_cons, List.length_append]
    simp only [totS]
    omega
def pairS (x : S59) : List Int × List Int := (bytesOf x.f0, bytesOf x.f1)
theorem mk_pair (x : S59) : mkP (pairS x) = x := by unfold mkP pairS; rw [strOf_bytes, strOf_bytes]
theorem recP_rec (x : S59) (hok : okB x = true) (hr : restS x < 9000000) : recS (recP x) = .ok (bytesOf x.f0) (bytesOf x.f1) (recP x).length := by
  obtain ⟨g1, g2, g3, g4⟩ := dP_ok (restS x) hr
  have hl := recP_len x hr
  have hrs : restS x = x.f0.size + x.f1.size + 3 := rfl
  have := recS_rec (n := restS x + dP (restS x)) ((okB_iff x).1 hok) (by rw [g1, bytesOf_len, bytesOf_len]; omega) (by omega)
  rw [hl.1]
  exact this
theorem parse_print : ∀ (l : List S59), l.all okB = true → totS l < 9000000 → ∀ (f p : Nat), (l.flatMap recP).length < f → parseS f (l.flatMap recP) p = .ok (l.map pairS)
  | [], _, _, f, p, hf => by
    obtain ⟨f, rfl⟩ : ∃ j, f = j + 1 := ⟨f - 1, by omega⟩
    rfl
  | x :: l, hok, hb, f, p, hf => by
    simp only [totS] at hb
    rw [List.all_cons, Bool.and_eq_true] at hok
    have hr : restS x < 9000000 := by omega
    have hR := recP_rec x hok.1 hr
    have hl := recP_len x hr
    have hrs : restS x = x.f0.size + x.f1.size + 3 := rfl
    rw [List.flatMap_cons] at hf ⊢
    rw [List.length_append] at hf
    have h1 : parseS ((recP x).length + 1) (recP x) p = .ok [pairS x] := by
      cases hq : recP x with
      | nil => rw [hq] at hl; simp only [List.length_nil] at hl; omega
      | cons c r =>
        rw [parseS_cons, ← hq, hR]
        simp only
        rw [List.drop_eq_nil_of_le (Nat.le_refl _)]
        have : 0 < (recP x).length := by omega
        obtain ⟨j, hj⟩ : ∃ j, (recP x).length = j + 1 := ⟨(recP x).length - 1, by omega⟩
        rw [hj]
        rfl
    have h2 := parseS_app _ _ p _ h1 (by omega) (l.flatMap recP) f ((l.flatMap recP).length + 1) (by omega) (by omega)
    rw [h2, parse_print l hok.2 (by omega) _ _ (by omega)]
    rfl
theorem parse_back : ∀ (f : Nat) (b : List Int) (p : Nat) (la : List (List Int × List Int)), parseS f b p = .ok la → b.length < f → Bytes8 b → b.length < 2000000 →
    (la.map mkP).all okB = true ∧ totS (la.map mkP) ≤ 3 * b.length ∧ ((la.map mkP).flatMap recP).length ≤ b.length ∧ b.length ≤ ((la.map mkP).flatMap recP).length + la.length ∧ (((la.map mkP).flatMap recP).length = b.length → (la.map mkP).flatMap recP = b) ∧ la.length ≤ b.length
  | 0, b, p, la, h, hf, _, _ => by omega
  | f + 1, [], p, la, h, hf, _, _ => by
    simp [parseS] at h
    subst h
    simp [totS]
  | f + 1, c :: b, p, la, h, hf, h8, hsz => by
    rw [parseS_cons] at h
    cases hR : recS (c :: b) with
    | fault a w => rw [hR] at h; cases h
    | ok key val n =>
      rw [hR] at h
      simp only at h
      cases hq : parseS f ((c :: b).drop n) (p + n) with
      | fault a w => rw [hq] at h; cases h
      | ok ll =>
        rw [hq] at h
        simp only [PR.ok.injEq] at h
        subst h
        obtain ⟨h5, hn⟩ := recS_ok hR
        obtain ⟨hk, hnn, h7, ht⟩ := recS_inv hR
        generalize hB : c :: b = B at *
        have hdl : (B.drop n).length = B.length - n := List.length_drop
        obtain ⟨i1, i2, i3, i4, i5, i6⟩ := parse_back f (B.drop n) (p + n) ll hq (by omega) (fun y hy => h8 y (List.mem_of_mem_drop hy)) (by omega)
        have hmem : ∀ y, y ∈ recT n key val → 0 ≤ y ∧ y < 256 := fun y hy => h8 y (List.mem_of_mem_take (by rw [ht]; exact hy))
        have hkey : Bytes8 key := fun y hy => hmem y (by unfold recT; simp [hy])
        have hval : Bytes8 val := fun y hy => hmem y (by unfold recT; simp [hy])
        have e1 : bytesOf (mkP (key, val)).f0 = key := bytes_strOf key hkey
        have e2 : bytesOf (mkP (key, val)).f1 = val := bytes_strOf val hval
        simp only [List.map_cons, List.all_cons, List.flatMap_cons, totS, List.length_append, List.length_cons]
        generalize mkP (key, val) = x at *
        have l1 := bytesOf_len x.f0
        have l2 := bytesOf_len x.f1
        rw [e1] at l1
        rw [e2] at l2
        have hrs : restS x = x.f0.size + x.f1.size + 3 := rfl
        have hr : restS x < 9000000 := by omega
        have hd : n = restS x + numD n := by omega
        have hd2 : numD (restS x + numD n) = numD n := by rw [← hd]
        obtain ⟨g1, g2, g3, g4⟩ := dP_ok (restS x) hr
        have hg := g4 (numD n) (numD_pos n) (by omega) hd2
        have hl := recP_len x hr
        have hsplit : B = recT n key val ++ B.drop n := by rw [← ht, List.take_append_drop]
        refine ⟨?_, by omega, by omega, by omega, fun he => ?_, by omega⟩
        · rw [i1, (okB_iff x).2 (by rw [e1, e2]; exact hk)]; rfl
        · have hdp : dP (restS x) = numD n := by omega
          have hrec : recP x = recT n key val := by
            unfold recP
            rw [hdp, ← hd, e1, e2]
          rw [i5 (by omega), hrec]
          exact hsplit.symm
theorem j0_f (b : List Int) (h8 : Bytes8 b) (hsz : b.length < 2000000) (k : Nat) (hk : 20 * b.length + 100 ≤ k) : satchellaw14_PaxBack.j0 k b = some true := by
  obtain ⟨k, rfl⟩ : ∃ m, k = m + 1 := ⟨k - 1, by omega⟩
  have hP := parse_f b (by omega) h8 k (by omega)
  rw [satchellaw14_PaxBack.j0]
  simp only [Option.bind_some, List.nil_append, List.length_nil, Nat.zero_add]
  rw [if_pos (by omega), hP]
  simp only [Option.bind_some]
  cases hA : parseS (b.length + 1) b 0 with
  | fault a w =>
    have hf := parseS_fault _ _ _ _ _ hA
    generalize hE : encP [] (PR.fault a w) = e
    simp only [encP] at hE
    obtain ⟨A, B, C⟩ := e
    simp only [Prod.mk.injEq] at hE
    obtain ⟨rfl, rfl, rfl⟩ := hE
    rw [if_neg hf.1]
    have h1 : a ≤ b.length := by omega
    simp [h1]
  | ok la =>
    obtain ⟨i1, i2, i3, i4, i5, i6⟩ := parse_back _ b 0 la hA (by omega) h8 hsz
    generalize hE : encP [] (PR.ok la) = e
    simp only [encP, List.nil_append] at hE
    obtain ⟨A, B, C⟩ := e
    simp only [Prod.mk.injEq] at hE
    obtain ⟨rfl, rfl, rfl⟩ := hE
    have hml : (la.map mkP).length = la.length := List.length_map _
    have hpr := print_f (la.map mkP) (by omega) (by omega) k (by omega)
    rw [if_pos rfl, hpr]
    simp only [Option.bind_some]
    have hps : printS (la.map mkP) = ((la.map mkP).flatMap recP, 0) := by unfold printS; rw [if_pos i1]
    rw [hps]
    simp only
    have e1 : wrap64 ((b.length : Int) - ((la.map mkP).length : Int)) = (b.length : Int) - (la.length : Int) := by rw [hml]; exact w64 (by omega) (by omega)
    rw [e1]
    clear e1
    rw [if_pos trivial, if_pos trivial, if_pos (by omega), if_pos (by omega)]
    by_cases hlt : (((la.map mkP).flatMap recP).length : Int) < (b.length : Int)
    · rw [if_pos hlt]
    · rw [if_neg hlt, i5 (by omega)]
      simp
theorem law_f (l : List S59) (b : List Int) (h8 : Bytes8 b) (hb : b.length < 1100000) (hl : totS l < 9000000) (hll : l.length < 1100000) : satchellaw14_PaxBack.f (300000000) l b = some true := by
  generalize hK : 300000000 = K
  have hpr := print_f l (by omega) hl K (by omega)
  have hj := j0_f b h8 (by omega) K (by omega)
  unfold satchellaw14_PaxBack.f
  rw [lives_f K (by omega)]
  simp only [Option.bind_some, if_true, List.nil_append, List.length_nil, Nat.zero_add]
  rw [if_pos (by omega), hpr]
  simp only [Option.bind_some]
  by_cases hok : l.all okB = true
  · have hps : printS l = (l.flatMap recP, 0) := by unfold printS; rw [if_pos hok]
    have hfl := flat_len l hl
    have hP := parse_f (l.flatMap recP) (by omega) (flat_bytes l) K (by omega)
    rw [parse_print l hok hl _ 0 (by omega)] at hP
    have hE : encP [] (PR.ok (l.map pairS)) = (l, 0, 0) := by
      simp only [encP, List.nil_append, List.map_map]
      have : (mkP ∘ pairS) = id := funext mk_pair
      rw [this, List.map_id]
    rw [hE] at hP
    rw [hps]
    simp only
    rw [if_pos trivial, hP]
    simp only [Option.bind_some]
    rw [if_pos trivial, same_f l (by omega) K (by omega)]
    simp only [Option.bind_some, if_true]
    exact hj
  · have hps : printS l = ([], 141) := by unfold printS; rw [if_neg hok]
    rw [hps]
    simp only
    rw [if_neg (by decide)]
    exact hj
theorem wt_one (l : List Int) : Go.Proofs.YtohgoaiimhhckaaDoorX.wtAll (fun x_ => 1) l = l.length := by
  induction l with
  | nil => rfl
  | cons x l ih => simp only [Go.Proofs.YtohgoaiimhhckaaDoorX.wtAll, ih, List.length_cons]; omega
theorem wt_pairs (l : List S59) (wt : S59 → Nat) (hw : ∀ x, wt x = ((x.f0.size + 1) + (x.f1.size + 1)) + 1) : totS l ≤ 4 * Go.Proofs.YtohgoaiimhhckaaDoorX.wtAll wt l ∧ l.length ≤ Go.Proofs.YtohgoaiimhhckaaDoorX.wtAll wt l := by
  induction l with
  | nil => simp [totS, Go.Proofs.YtohgoaiimhhckaaDoorX.wtAll]
  | cons x l ih =>
    have hrs : restS x = x.f0.size + x.f1.size + 3 := rfl
    have := hw x
    simp only [Go.Proofs.YtohgoaiimhhckaaDoorX.wtAll, totS, List.length_cons]
    omega
theorem bytes_good {l : List Int} (g : ∀ x_ ∈ l, (Lit.int .u8 x_).wf = true) : Bytes8 l := fun x hx => by
  have := g x hx
  simp [Lit.wf, IntKind.min, IntKind.max, IntKind.signed, IntKind.bits] at this
  omega
theorem law_up (wt : S59 → Nat) (hw : ∀ x, wt x = ((x.f0.size + 1) + (x.f1.size + 1)) + 1) (l0 : List S59) (l1 : List Int) {G0 : Prop} (_ : G0) (g1 : ∀ x_ ∈ l1, (Lit.int .u8 x_).wf = true)
    (hb : (Go.Proofs.YtohgoaiimhhckaaDoorX.wtAll wt l0 + 1) + (Go.Proofs.YtohgoaiimhhckaaDoorX.wtAll (fun x_ => 1) l1 + 1) ≤ 1048576) :
    ∃ k, satchellaw14_PaxBack.f k l0 l1 = some true := by
  rw [wt_one] at hb
  have := wt_pairs l0 wt hw
  exact ⟨_, law_f l0 l1 (bytes_good g1) (by omega) (by omega) (by omega)⟩
end Go.Proofs.YtohgoaiimhhckaaDoor.PaxBridge
