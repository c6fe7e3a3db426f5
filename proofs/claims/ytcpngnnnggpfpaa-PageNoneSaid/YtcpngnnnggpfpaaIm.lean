/- Images: their bytes. No further condition. -/
import Derived.Test.YtcpngnnnggpfpaaEc
namespace Go.Proofs.Ytcpngnnnggpfpaa
open Go.RowKit
attribute [local go_sem ↓] Go.wp_at_zero Go.wp_at_succ

/-- An image: its number, its segment and one, its index, the segments' states and numbers, the blocks' places and one. -/
structure Pic where
  sq : Nat
  sg : Nat
  ix : Nat
  cs : List (Nat × Nat)
  mp : List Nat
deriving DecidableEq
structure OkPic (x : Pic) : Prop where
  sq : x.sq < 18446744073709551616
  sg : x.sg < 65536
  ix : x.ix < 65536
  cs : ∀ s ∈ x.cs, s.1 < 256 ∧ s.2 < 18446744073709551616
  mp : ∀ p ∈ x.mp, p < 4294967296
  n : x.cs.length ≤ 1000
  m : x.mp.length ≤ 1000
abbrev sgv (s : Nat × Nat) : List Value := [.int .i64 s.1, .int .u64 s.2]
def sgs (l : List (Nat × Nat)) : List Value := l.flatMap sgv
def mps (l : List Nat) : List Value := l.map fun (p : Nat) => Value.int .i64 ((p : Int) - 1)
theorem sgv_len (s : Nat × Nat) : (sgv s).length = 2 := rfl
theorem sgs_len (l : List (Nat × Nat)) : (sgs l).length = l.length * 2 := flat_len sgv sgv_len l
theorem mps_len (l : List Nat) : (mps l).length = l.length := by simp [mps]
theorem sgs_snoc (l : List (Nat × Nat)) (s : Nat × Nat) : sgs (l ++ [s]) = sgs l ++ sgv s := by simp [sgs]
theorem mps_snoc (l : List Nat) (p : Nat) : mps (l ++ [p]) = mps l ++ [.int .i64 ((p : Int) - 1)] := by simp [mps]
theorem sgs_one (l : List (Nat × Nat)) : ∀ u ∈ sgs l, u.oneCell' = true := by
  intro u hu
  obtain ⟨s, _, hs⟩ := List.mem_flatMap.1 hu
  simp [sgv] at hs
  rcases hs with rfl | rfl <;> rfl
theorem sgs_at {w : World} {A : Option Addr} {l : List (Nat × Nat)} (h : Rd w A (sgs l)) {i : Nat} {s : Nat × Nat} (hi : l[i]? = some s) :
    ∃ x, A = some x ∧ w.cell? (x.add (i * 2)) = some (.int .i64 s.1) ∧ w.cell? ⟨(x.add (i * 2)).block, (x.add (i * 2)).off + 1, none⟩ = some (.int .u64 s.2) := by
  obtain ⟨ad, e, a0⟩ := h (i * 2) _ ((flat_get sgv sgv_len l i 0 s (by decide) hi).trans rfl)
  obtain ⟨_, e1, a1⟩ := h (i * 2 + 1) _ ((flat_get sgv sgv_len l i 1 s (by decide) hi).trans rfl)
  rw [e] at e1
  injection e1 with e1; subst e1
  rw [add_field ad (i * 2) 1 (by decide)] at a1
  exact ⟨_, e, a0, a1⟩
theorem mps_at {w : World} {A : Option Addr} {l : List Nat} (h : Rd w A (mps l)) {i p : Nat} (hi : l[i]? = some p) : ∃ x, A = some x ∧ w.cell? (x.add i) = some (.int .i64 ((p : Int) - 1)) := by
  obtain ⟨ad, e, a0⟩ := h i (.int .i64 ((p : Int) - 1)) (by unfold mps; rw [List.getElem?_map, hi]; rfl)
  exact ⟨ad, e, a0⟩

/-! ### its bytes -/
def csL (l : List (Nat × Nat)) : List Int := l.flatMap fun s => le 1 s.1 ++ le 8 s.2
def mpL (l : List Nat) : List Int := l.flatMap (le 4)
def hdL (sq sg ix : Nat) : List Int := le 8 sq ++ le 2 sg ++ le 2 ix
def picL (x : Pic) : List Int := hdL x.sq x.sg x.ix ++ csL x.cs ++ mpL x.mp
theorem csL_snoc (l : List (Nat × Nat)) (s : Nat × Nat) : csL (l ++ [s]) = csL l ++ le 1 s.1 ++ le 8 s.2 := by simp [csL]
theorem mpL_snoc (l : List Nat) (p : Nat) : mpL (l ++ [p]) = mpL l ++ le 4 p := by simp [mpL]
theorem csL_len (l : List (Nat × Nat)) : (csL l).length = l.length * 9 := flat_len9 l
  where flat_len9 : ∀ l : List (Nat × Nat), (csL l).length = l.length * 9
    | [] => rfl
    | s :: l => by
      have := flat_len9 l
      unfold csL at this ⊢
      rw [List.flatMap_cons, List.length_append, this, List.length_append, le_len, le_len, List.length_cons]
      omega
theorem mpL_len : ∀ l : List Nat, (mpL l).length = l.length * 4
  | [] => rfl
  | s :: l => by
    have := mpL_len l
    unfold mpL at this ⊢
    rw [List.flatMap_cons, List.length_append, this, le_len, List.length_cons]
    omega
theorem hdL_len (a b c : Nat) : (hdL a b c).length = 12 := by simp [hdL, le_len]
theorem picL_len (x : Pic) : (picL x).length = 12 + 9 * x.cs.length + 4 * x.mp.length := by
  unfold picL
  rw [List.length_append, List.length_append, hdL_len, csL_len, mpL_len]
  omega
theorem le_oct' (k n : Nat) : Oct (le k n) := fun x hx => by
  unfold le at hx
  obtain ⟨i, _, rfl⟩ := List.mem_map.1 hx
  unfold byteAt
  have := Nat.mod_lt (n / 256 ^ i) (show 0 < 256 by decide)
  omega
theorem flat_oct {α : Type} (f : α → List Int) (h : ∀ a, Oct (f a)) (l : List α) : Oct (l.flatMap f) := fun x hx => by
  obtain ⟨a, _, hx⟩ := List.mem_flatMap.1 hx
  exact h a x hx
theorem picL_oct (x : Pic) : Oct (picL x) :=
  ((((le_oct' _ _).app (le_oct' _ _)).app (le_oct' _ _)).app (flat_oct _ (fun _ => (le_oct' _ _).app (le_oct' _ _)) _)).app (flat_oct _ (fun _ => le_oct' _ _) _)
theorem Blk.cells5 {w : World} {g : Nat} {t : TypeId} {a b c d e : Value} (h : Blk w g t #[a, b, c, d, e]) : w.cell? ⟨g, 0, none⟩ = some a ∧ w.cell? ⟨g, 1, none⟩ = some b ∧ w.cell? ⟨g, 2, none⟩ = some c ∧ w.cell? ⟨g, 3, none⟩ = some d ∧ w.cell? ⟨g, 4, none⟩ = some e :=
  ⟨h.at_ rfl, h.at_ rfl, h.at_ rfl, h.at_ rfl, h.at_ rfl⟩
set_option maxRecDepth 100000 in
set_option maxHeartbeats 12800000 in
theorem bytes1_ok (x : Pic) (A B : Option Addr) (c d : Nat) (w : World) (ho : OkPic x) (ra : Rd w A (sgs x.cs)) (rb : Rd w B (mps x.mp)) :
    Calls Try.prog 25 #[.agg #[.int .u64 x.sq, .int .i64 ((x.sg : Int) - 1), .int .i64 x.ix, .slice A x.cs.length c, .slice B x.mp.length d]] w fun e w' => Sl w' e (picL x) ∧ Below w.heap.size w w' := by
  obtain ⟨sq, sg, ix, cs, mp⟩ := x
  obtain ⟨h1, h2, h3, h4, h5, h6, h7⟩ := ho
  simp only at h1 h2 h3 h4 h5 h6 h7 ra rb ⊢
  have HRA := Lib.hid ra
  have HRB := Lib.hid rb
  have HC := Lib.hid h4
  have HP := Lib.hid h5
  have hE0 : Ec w ((w.alloc (.cells #[.int .u64 sq, .int .i64 ((sg : Int) - 1), .int .i64 ix, .slice A cs.length c, .slice B mp.length d] 28)).alloc (.cells #[.slice none 0 0] 61)) 28 #[.int .u64 sq, .int .i64 ((sg : Int) - 1), .int .i64 ix, .slice A cs.length c, .slice B mp.length d] (.slice none 0 0) [] :=
    ⟨⟨Blk.new_ _ _ _ (by simp), World.ownsRow_nil _ _ _ _⟩, (Blk.new w 28 _).alloc _, ((Below.refl _ _).alloc (Nat.le_refl _) _).alloc (by simp) _⟩
  have HE0 := Lib.hid hE0
  have e1 : IntKind.i64.wrap (sg : Int) = sg := IntWalk.i64_in _ (by omega)
  have e2 : IntKind.u64.wrap (sg : Int) = sg := by rw [IntKind.wrap_u64]; omega
  have e3 : IntKind.u64.wrap (ix : Int) = ix := by rw [IntKind.wrap_u64]; omega
  obtain ⟨z0, z1, z2, -, -⟩ := hE0.box.cells5
  clear ra rb h4 h5 hE0
  go_enter Try.func25, Try.ntmps25
  go_wp2
  generalize (w.alloc (.cells #[.int .u64 sq, .int .i64 ((sg : Int) - 1), .int .i64 ix, .slice A cs.length c, .slice B mp.length d] 28)).alloc (.cells #[.slice none 0 0] 61) = W0 at HE0 z0 z1 z2 ⊢
  go_region_held3 (fun w' => w'.cell? ⟨w.heap.size, 0, none⟩ = some (.int .u64 sq) ∧ w'.cell? ⟨w.heap.size, 1, none⟩ = some (.int .i64 ((sg : Int) - 1)) ∧ w'.cell? ⟨w.heap.size, 2, none⟩ = some (.int .i64 ix))
    (exact ⟨by assumption, by assumption, by assumption⟩)
    (first
      | (go_at_call 27; (with_reducible refine (putE HE0.out.dr 8 sq 8 sq rfl rfl (by omega) (by omega) (by omega) (by simp)).mono ?_); rintro e w1 ⟨rfl, v1, -, hE1⟩; have HE1 := Lib.hid hE1; clear hE1; obtain ⟨z10, z11, z12, -, -⟩ := HE1.out.box.cells5)
      | (go_at_call 27; (with_reducible refine (putE HE1.out 2 sg 2 sg rfl rfl (by omega) (by omega) (by omega) (by simp [le_len])).mono ?_); rintro e w2 ⟨rfl, v2, -, hE2⟩; have HE2 := Lib.hid hE2; clear hE2; obtain ⟨z20, z21, z22, -, -⟩ := HE2.out.box.cells5)
      | (go_at_call 27; (with_reducible refine (putE HE2.out 2 ix 2 ix rfl rfl (by omega) (by omega) (by omega) (by simp [le_len])).mono ?_); rintro e w3 ⟨rfl, v3, -, hE3⟩; have HE3 := Lib.hid hE3; clear hE3; obtain ⟨z30, z31, z32, z33, z34⟩ := HE3.out.box.cells5))
  go_wp2
  go_loopw [5, 23] (fun _ i wr => ∃ (k : Nat) (v : Value), k ≤ cs.length ∧ i = .int .i64 k ∧ Ec w wr 28 #[.int .u64 sq, .int .i64 ((sg : Int) - 1), .int .i64 ix, .slice A cs.length c, .slice B mp.length d] v (hdL sq sg ix ++ csL (cs.take k))) (fun _ i _ => cs.length - (intOf i).toNat)
  case atStart => exact ⟨0, _, by omega, rfl, by have := HE3.out; simpa [hdL, csL] using this⟩
  case round =>
    clear HE0 HE1 HE2 HE3 z0 z1 z2 z10 z11 z12 z20 z21 z22 z30 z31 z32 z33 z34
    obtain ⟨k, v, hk, rfl, hE⟩ := hrel
    have HE := Lib.hid hE
    by_cases hlt : k < cs.length
    · obtain ⟨s, hs⟩ : ∃ s, cs[k]? = some s := ⟨_, List.getElem?_eq_getElem hlt⟩
      obtain ⟨x, rfl, c0, c1⟩ := sgs_at (HRA.out.later hE.bel) hs
      obtain ⟨s0, s1⟩ := HC.out s (List.mem_of_getElem? hs)
      have g1 : (k : Int) < cs.length := by omega
      have hsn : hdL sq sg ix ++ csL (cs.take (k + 1)) = hdL sq sg ix ++ csL (cs.take k) ++ le 1 s.1 ++ le 8 s.2 := by rw [take_snoc_pk hs, csL_snoc]; simp only [List.append_assoc]
      have hln : (hdL sq sg ix ++ csL (cs.take k)).length = 12 + k * 9 := by rw [List.length_append, hdL_len, csL_len, List.length_take]; omega
      have HSN := Lib.hid hsn
      have HLN := Lib.hid hln
      have u1 : IntKind.u64.wrap (s.1 : Int) = s.1 := by rw [IntKind.wrap_u64]; omega
      clear hE hs hsn hln
      go_wp2
      have hb1 := Blk.new wr 72 #[.int .i64 s.1, .int .u64 s.2]
      have HE1 := Lib.hid (HE.out.later ((Below.refl wr.heap.size wr).alloc (Nat.le_refl _) (.cells #[.int .i64 s.1, .int .u64 s.2] 72)))
      have hne1 : wr.heap.size ≠ w.heap.size + 1 := by have := HE.out.big; omega
      have hno1 := own_blk_ne HE1.out.wr.row hb1 (by decide)
      obtain ⟨z0, z1⟩ := hb1.cells2
      have HB1 := Lib.hid hb1
      have HNO := Lib.hid hno1
      obtain ⟨bx, hbx⟩ : ∃ bx, bx = wr.heap.size := ⟨_, rfl⟩
      generalize wr.alloc (.cells #[.int .i64 s.1, .int .u64 s.2] 72) = W1 at HE1 HB1 HNO z0 z1 ⊢
      rw [← hbx] at HB1 HNO z0 z1 hne1 ⊢
      clear hbx hb1 hno1
      go_region_held3 (fun w' => w'.cell? ⟨bx, 0, none⟩ = some (.int .i64 s.1) ∧ w'.cell? ⟨bx, 1, none⟩ = some (.int .u64 s.2))
        (exact ⟨by assumption, by assumption⟩)
        (first
          | (go_at_call 27; (with_reducible refine (putE HE1.out.dr 1 s.1 1 s.1 rfl rfl (by omega) (by omega) (by omega) (by rw [HLN.out]; omega)).mono ?_); rintro e w1 ⟨rfl, v1, hW1, hE2⟩; have HK1 := Lib.hid (hW1.keep HB1.out hne1 HNO.out); have HE2 := Lib.hid hE2; clear hW1 hE2; obtain ⟨z10, z11⟩ := HK1.out.1.cells2)
          | (go_at_call 27; (with_reducible refine (putE HE2.out 8 s.2 8 s.2 rfl rfl (by omega) (by omega) (by omega) (by rw [List.length_append, HLN.out, le_len]; omega)).mono ?_); rintro e w2 ⟨rfl, v2, hW2, hE3⟩; have HK2 := Lib.hid (hW2.keep HK1.out.1 hne1 HK1.out.2); have HE3 := Lib.hid hE3; clear hW2 hE3; obtain ⟨z20, z21⟩ := HK2.out.1.cells2))
      go_wp2
      go_roundw
      case rel => exact ⟨k + 1, _, by omega, by go_num, by rw [HSN.out]; exact HE3.out⟩
      case measure => simp [intOf]; omega
    · obtain rfl : k = cs.length := by omega
      clear hE
      rw [List.take_length] at HE
      obtain ⟨z0, z1, z2, z3, z4⟩ := HE.out.box.cells5
      obtain ⟨nl, hnl⟩ : ∃ nl, nl = hdL sq sg ix ++ csL cs := ⟨_, rfl⟩
      have hln : nl.length = 12 + 9 * cs.length := by rw [hnl, List.length_append, hdL_len, csL_len]; omega
      rw [← hnl] at HE
      have HNL := Lib.hid hnl
      clear hnl
      go_wp2
      clear z0 z1 z2 z3 z4
      go_loopw [7, 38] (fun _ i wr => ∃ (k : Nat) (v : Value), k ≤ mp.length ∧ i = .int .i64 k ∧ Ec w wr 28 #[.int .u64 sq, .int .i64 ((sg : Int) - 1), .int .i64 ix, .slice A cs.length c, .slice B mp.length d] v (nl ++ mpL (mp.take k))) (fun _ i _ => mp.length - (intOf i).toNat)
      case atStart => exact ⟨0, _, by omega, rfl, by have := HE.out; simpa [mpL] using this⟩
      case round =>
        clear HE
        rename World => wi
        obtain ⟨k, v, hk, rfl, hE⟩ := hrel
        have HE := Lib.hid hE
        by_cases hlt : k < mp.length
        · obtain ⟨p, hp⟩ : ∃ p, mp[k]? = some p := ⟨_, List.getElem?_eq_getElem hlt⟩
          obtain ⟨x, rfl, c0⟩ := mps_at (HRB.out.later hE.bel) hp
          have p0 := HP.out p (List.mem_of_getElem? hp)
          have g1 : (k : Int) < mp.length := by omega
          have hsn : nl ++ mpL (mp.take (k + 1)) = nl ++ mpL (mp.take k) ++ le 4 p := by rw [take_snoc_pk hp, mpL_snoc]; simp only [List.append_assoc]
          have hln2 : (nl ++ mpL (mp.take k)).length = 12 + 9 * cs.length + k * 4 := by rw [List.length_append, mpL_len, List.length_take]; omega
          have HSN := Lib.hid hsn
          have HLN := Lib.hid hln2
          have u1 : IntKind.u64.wrap (p : Int) = p := by rw [IntKind.wrap_u64]; omega
          have u2 : IntKind.i64.wrap (p : Int) = p := IntWalk.i64_in _ (by omega)
          clear hE hp hsn hln2
          go_wp2_with (first
            | (go_at_call 27; (with_reducible refine (putE HE.out 4 p 4 p rfl rfl (by omega) (by omega) (by omega) (by rw [HLN.out]; omega)).mono ?_); rintro e w1 ⟨rfl, v1, -, hE2⟩; have HE2 := Lib.hid hE2; clear hE2)
            | fail "no")
          go_roundw
          case rel => exact ⟨k + 1, _, by omega, by go_num, by rw [HSN.out]; exact HE2.out⟩
          case measure => simp [intOf]; omega
        · obtain rfl : k = mp.length := by omega
          clear hE
          rw [List.take_length] at HE
          obtain ⟨ml, hml⟩ : ∃ ml, ml = nl ++ mpL mp := ⟨_, rfl⟩
          have hmll : ml.length = 12 + 9 * cs.length + 4 * mp.length := by rw [hml, List.length_append, mpL_len]; omega
          rw [← hml] at HE
          have HML := Lib.hid hml
          have HMLL : Hid (ml.length ≤ 1000000) := Lib.hid (by omega)
          clear hml hmll
          go_wp2_with (first
            | (go_at_call 31; (with_reducible refine (bytes_ok (w.heap.size + 2) (w.heap.size + 1) v ml 0 _ HE.out.wr (Nat.le_trans HMLL.out (by decide)) (by decide)).mono ?_); rintro e w5 ⟨r5, rfl, hown5, hB5⟩; have HE5 := Lib.hid (HE.out.later hB5); have hrd5 := own_formc hown5; rw [Int.toNat_zero, pad_long (Nat.zero_le _)] at hrd5; obtain ⟨A5, c5, rfl, hr5, hc5, -⟩ := hrd5; have HR5 := Lib.hid hr5; clear hown5 hB5 hr5)
            | fail "no")
          go_ret
          rw [show picL ⟨sq, sg, ix, cs, mp⟩ = ml from by rw [HML.out, HNL.out]; rfl]
          exact ⟨⟨A5, c5, rfl, HR5.out, hc5⟩, HE5.out.bel⟩
end Go.Proofs.Ytcpngnnnggpfpaa
