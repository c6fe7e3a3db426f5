/- Images: their bytes. Encode: an image's pages. No further condition. -/
import Derived.Test.YtcpngnnnggpfpaaEc
import Derived.Test.YtcpngnnnggpfpaaSc
import Derived.Test.YtcpngnnnggpfpaaSh
import Derived.Test.YtcpngnnnggpfpaaSu3
namespace Go.Proofs.Ytcpngnnnggpfpaa
open Go.RowKit
attribute [local go_sem ↓] Go.wp_at_zero Go.wp_at_succ

/-- An image: its number, its segment and one, its index, the segments' states and numbers, the blocks' places and one. -/
structure Pic where
  sq : Nat
  sg : Nat
  ix : Nat
  cs : List (Nat × Nat)
  mp : List Nat
deriving DecidableEq
structure OkPic (x : Pic) : Prop where
  sq : x.sq < 18446744073709551616
  sg : x.sg < 65536
  ix : x.ix < 65536
  cs : ∀ s ∈ x.cs, s.1 < 256 ∧ s.2 < 18446744073709551616
  mp : ∀ p ∈ x.mp, p < 4294967296
  n : x.cs.length ≤ 1000
  m : x.mp.length ≤ 1000
abbrev sgv (s : Nat × Nat) : List Value := [.int .i64 s.1, .int .u64 s.2]
def sgs (l : List (Nat × Nat)) : List Value := l.flatMap sgv
def mps (l : List Nat) : List Value := l.map fun (p : Nat) => Value.int .i64 ((p : Int) - 1)
theorem sgv_len (s : Nat × Nat) : (sgv s).length = 2 := rfl
theorem sgs_len (l : List (Nat × Nat)) : (sgs l).length = l.length * 2 := flat_len sgv sgv_len l
theorem mps_len (l : List Nat) : (mps l).length = l.length := by simp [mps]
theorem sgs_snoc (l : List (Nat × Nat)) (s : Nat × Nat) : sgs (l ++ [s]) = sgs l ++ sgv s := by simp [sgs]
theorem mps_snoc (l : List Nat) (p : Nat) : mps (l ++ [p]) = mps l ++ [.int .i64 ((p : Int) - 1)] := by simp [mps]
theorem sgs_one (l : List (Nat × Nat)) : ∀ u ∈ sgs l, u.oneCell' = true := by
  intro u hu
  obtain ⟨s, _, hs⟩ := List.mem_flatMap.1 hu
  simp [sgv] at hs
  rcases hs with rfl | rfl <;> rfl
theorem sgs_at {w : World} {A : Option Addr} {l : List (Nat × Nat)} (h : Rd w A (sgs l)) {i : Nat} {s : Nat × Nat} (hi : l[i]? = some s) :
    ∃ x, A = some x ∧ w.cell? (x.add (i * 2)) = some (.int .i64 s.1) ∧ w.cell? ⟨(x.add (i * 2)).block, (x.add (i * 2)).off + 1, none⟩ = some (.int .u64 s.2) := by
  obtain ⟨ad, e, a0⟩ := h (i * 2) _ ((flat_get sgv sgv_len l i 0 s (by decide) hi).trans rfl)
  obtain ⟨_, e1, a1⟩ := h (i * 2 + 1) _ ((flat_get sgv sgv_len l i 1 s (by decide) hi).trans rfl)
  rw [e] at e1
  injection e1 with e1; subst e1
  rw [add_field ad (i * 2) 1 (by decide)] at a1
  exact ⟨_, e, a0, a1⟩
theorem mps_at {w : World} {A : Option Addr} {l : List Nat} (h : Rd w A (mps l)) {i p : Nat} (hi : l[i]? = some p) : ∃ x, A = some x ∧ w.cell? (x.add i) = some (.int .i64 ((p : Int) - 1)) := by
  obtain ⟨ad, e, a0⟩ := h i (.int .i64 ((p : Int) - 1)) (by unfold mps; rw [List.getElem?_map, hi]; rfl)
  exact ⟨ad, e, a0⟩

/-! ### its bytes -/
def csL (l : List (Nat × Nat)) : List Int := l.flatMap fun s => le 1 s.1 ++ le 8 s.2
def mpL (l : List Nat) : List Int := l.flatMap (le 4)
def hdL (sq sg ix : Nat) : List Int := le 8 sq ++ le 2 sg ++ le 2 ix
def picL (x : Pic) : List Int := hdL x.sq x.sg x.ix ++ csL x.cs ++ mpL x.mp
theorem csL_snoc (l : List (Nat × Nat)) (s : Nat × Nat) : csL (l ++ [s]) = csL l ++ le 1 s.1 ++ le 8 s.2 := by simp [csL]
theorem mpL_snoc (l : List Nat) (p : Nat) : mpL (l ++ [p]) = mpL l ++ le 4 p := by simp [mpL]
theorem csL_len (l : List (Nat × Nat)) : (csL l).length = l.length * 9 := flat_len9 l
  where flat_len9 : ∀ l : List (Nat × Nat), (csL l).length = l.length * 9
    | [] => rfl
    | s :: l => by
      have := flat_len9 l
      unfold csL at this ⊢
      rw [List.flatMap_cons, List.length_append, this, List.length_append, le_len, le_len, List.length_cons]
      omega
theorem mpL_len : ∀ l : List Nat, (mpL l).length = l.length * 4
  | [] => rfl
  | s :: l => by
    have := mpL_len l
    unfold mpL at this ⊢
    rw [List.flatMap_cons, List.length_append, this, le_len, List.length_cons]
    omega
theorem hdL_len (a b c : Nat) : (hdL a b c).length = 12 := by simp [hdL, le_len]
theorem picL_len (x : Pic) : (picL x).length = 12 + 9 * x.cs.length + 4 * x.mp.length := by
  unfold picL
  rw [List.length_append, List.length_append, hdL_len, csL_len, mpL_len]
  omega
theorem le_oct' (k n : Nat) : Oct (le k n) := fun x hx => by
  unfold le at hx
  obtain ⟨i, _, rfl⟩ := List.mem_map.1 hx
  unfold byteAt
  have := Nat.mod_lt (n / 256 ^ i) (show 0 < 256 by decide)
  omega
theorem flat_oct {α : Type} (f : α → List Int) (h : ∀ a, Oct (f a)) (l : List α) : Oct (l.flatMap f) := fun x hx => by
  obtain ⟨a, _, hx⟩ := List.mem_flatMap.1 hx
  exact h a x hx
theorem picL_oct (x : Pic) : Oct (picL x) :=
  ((((le_oct' _ _).app (le_oct' _ _)).app (le_oct' _ _)).app (flat_oct _ (fun _ => (le_oct' _ _).app (le_oct' _ _)) _)).app (flat_oct _ (fun _ => le_oct' _ _) _)
theorem Blk.cells5 {w : World} {g : Nat} {t : TypeId} {a b c d e : Value} (h : Blk w g t #[a, b, c, d, e]) : w.cell? ⟨g, 0, none⟩ = some a ∧ w.cell? ⟨g, 1, none⟩ = some b ∧ w.cell? ⟨g, 2, none⟩ = some c ∧ w.cell? ⟨g, 3, none⟩ = some d ∧ w.cell? ⟨g, 4, none⟩ = some e :=
  ⟨h.at_ rfl, h.at_ rfl, h.at_ rfl, h.at_ rfl, h.at_ rfl⟩
set_option maxRecDepth 100000 in
set_option maxHeartbeats 12800000 in
theorem bytes1_ok (x : Pic) (A B : Option Addr) (c d : Nat) (w : World) (ho : OkPic x) (ra : Rd w A (sgs x.cs)) (rb : Rd w B (mps x.mp)) :
    Calls Try.prog 25 #[.agg #[.int .u64 x.sq, .int .i64 ((x.sg : Int) - 1), .int .i64 x.ix, .slice A x.cs.length c, .slice B x.mp.length d]] w fun e w' => Sl w' e (picL x) ∧ Below w.heap.size w w' := by
  obtain ⟨sq, sg, ix, cs, mp⟩ := x
  obtain ⟨h1, h2, h3, h4, h5, h6, h7⟩ := ho
  simp only at h1 h2 h3 h4 h5 h6 h7 ra rb ⊢
  have HRA := Lib.hid ra
  have HRB := Lib.hid rb
  have HC := Lib.hid h4
  have HP := Lib.hid h5
  have hE0 : Ec w ((w.alloc (.cells #[.int .u64 sq, .int .i64 ((sg : Int) - 1), .int .i64 ix, .slice A cs.length c, .slice B mp.length d] 28)).alloc (.cells #[.slice none 0 0] 61)) 28 #[.int .u64 sq, .int .i64 ((sg : Int) - 1), .int .i64 ix, .slice A cs.length c, .slice B mp.length d] (.slice none 0 0) [] :=
    ⟨⟨Blk.new_ _ _ _ (by simp), World.ownsRow_nil _ _ _ _⟩, (Blk.new w 28 _).alloc _, ((Below.refl _ _).alloc (Nat.le_refl _) _).alloc (by simp) _⟩
  have HE0 := Lib.hid hE0
  have e1 : IntKind.i64.wrap (sg : Int) = sg := IntWalk.i64_in _ (by omega)
  have e2 : IntKind.u64.wrap (sg : Int) = sg := by rw [IntKind.wrap_u64]; omega
  have e3 : IntKind.u64.wrap (ix : Int) = ix := by rw [IntKind.wrap_u64]; omega
  obtain ⟨z0, z1, z2, -, -⟩ := hE0.box.cells5
  clear ra rb h4 h5 hE0
  go_enter Try.func25, Try.ntmps25
  go_wp2
  generalize (w.alloc (.cells #[.int .u64 sq, .int .i64 ((sg : Int) - 1), .int .i64 ix, .slice A cs.length c, .slice B mp.length d] 28)).alloc (.cells #[.slice none 0 0] 61) = W0 at HE0 z0 z1 z2 ⊢
  go_region_held3 (fun w' => w'.cell? ⟨w.heap.size, 0, none⟩ = some (.int .u64 sq) ∧ w'.cell? ⟨w.heap.size, 1, none⟩ = some (.int .i64 ((sg : Int) - 1)) ∧ w'.cell? ⟨w.heap.size, 2, none⟩ = some (.int .i64 ix))
    (exact ⟨by assumption, by assumption, by assumption⟩)
    (first
      | (go_at_call 27; (with_reducible refine (putE HE0.out.dr 8 sq 8 sq rfl rfl (by omega) (by omega) (by omega) (by simp)).mono ?_); rintro e w1 ⟨rfl, v1, -, hE1⟩; have HE1 := Lib.hid hE1; clear hE1; obtain ⟨z10, z11, z12, -, -⟩ := HE1.out.box.cells5)
      | (go_at_call 27; (with_reducible refine (putE HE1.out 2 sg 2 sg rfl rfl (by omega) (by omega) (by omega) (by simp [le_len])).mono ?_); rintro e w2 ⟨rfl, v2, -, hE2⟩; have HE2 := Lib.hid hE2; clear hE2; obtain ⟨z20, z21, z22, -, -⟩ := HE2.out.box.cells5)
      | (go_at_call 27; (with_reducible refine (putE HE2.out 2 ix 2 ix rfl rfl (by omega) (by omega) (by omega) (by simp [le_len])).mono ?_); rintro e w3 ⟨rfl, v3, -, hE3⟩; have HE3 := Lib.hid hE3; clear hE3; obtain ⟨z30, z31, z32, z33, z34⟩ := HE3.out.box.cells5))
  go_wp2
  go_loopw [5, 23] (fun _ i wr => ∃ (k : Nat) (v : Value), k ≤ cs.length ∧ i = .int .i64 k ∧ Ec w wr 28 #[.int .u64 sq, .int .i64 ((sg : Int) - 1), .int .i64 ix, .slice A cs.length c, .slice B mp.length d] v (hdL sq sg ix ++ csL (cs.take k))) (fun _ i _ => cs.length - (intOf i).toNat)
  case atStart => exact ⟨0, _, by omega, rfl, by have := HE3.out; simpa [hdL, csL] using this⟩
  case round =>
    clear HE0 HE1 HE2 HE3 z0 z1 z2 z10 z11 z12 z20 z21 z22 z30 z31 z32 z33 z34
    obtain ⟨k, v, hk, rfl, hE⟩ := hrel
    have HE := Lib.hid hE
    by_cases hlt : k < cs.length
    · obtain ⟨s, hs⟩ : ∃ s, cs[k]? = some s := ⟨_, List.getElem?_eq_getElem hlt⟩
      obtain ⟨x, rfl, c0, c1⟩ := sgs_at (HRA.out.later hE.bel) hs
      obtain ⟨s0, s1⟩ := HC.out s (List.mem_of_getElem? hs)
      have g1 : (k : Int) < cs.length := by omega
      have hsn : hdL sq sg ix ++ csL (cs.take (k + 1)) = hdL sq sg ix ++ csL (cs.take k) ++ le 1 s.1 ++ le 8 s.2 := by rw [take_snoc_pk hs, csL_snoc]; simp only [List.append_assoc]
      have hln : (hdL sq sg ix ++ csL (cs.take k)).length = 12 + k * 9 := by rw [List.length_append, hdL_len, csL_len, List.length_take]; omega
      have HSN := Lib.hid hsn
      have HLN := Lib.hid hln
      have u1 : IntKind.u64.wrap (s.1 : Int) = s.1 := by rw [IntKind.wrap_u64]; omega
      clear hE hs hsn hln
      go_wp2
      have hb1 := Blk.new wr 72 #[.int .i64 s.1, .int .u64 s.2]
      have HE1 := Lib.hid (HE.out.later ((Below.refl wr.heap.size wr).alloc (Nat.le_refl _) (.cells #[.int .i64 s.1, .int .u64 s.2] 72)))
      have hne1 : wr.heap.size ≠ w.heap.size + 1 := by have := HE.out.big; omega
      have hno1 := own_blk_ne HE1.out.wr.row hb1 (by decide)
      obtain ⟨z0, z1⟩ := hb1.cells2
      have HB1 := Lib.hid hb1
      have HNO := Lib.hid hno1
      obtain ⟨bx, hbx⟩ : ∃ bx, bx = wr.heap.size := ⟨_, rfl⟩
      generalize wr.alloc (.cells #[.int .i64 s.1, .int .u64 s.2] 72) = W1 at HE1 HB1 HNO z0 z1 ⊢
      rw [← hbx] at HB1 HNO z0 z1 hne1 ⊢
      clear hbx hb1 hno1
      go_region_held3 (fun w' => w'.cell? ⟨bx, 0, none⟩ = some (.int .i64 s.1) ∧ w'.cell? ⟨bx, 1, none⟩ = some (.int .u64 s.2))
        (exact ⟨by assumption, by assumption⟩)
        (first
          | (go_at_call 27; (with_reducible refine (putE HE1.out.dr 1 s.1 1 s.1 rfl rfl (by omega) (by omega) (by omega) (by rw [HLN.out]; omega)).mono ?_); rintro e w1 ⟨rfl, v1, hW1, hE2⟩; have HK1 := Lib.hid (hW1.keep HB1.out hne1 HNO.out); have HE2 := Lib.hid hE2; clear hW1 hE2; obtain ⟨z10, z11⟩ := HK1.out.1.cells2)
          | (go_at_call 27; (with_reducible refine (putE HE2.out 8 s.2 8 s.2 rfl rfl (by omega) (by omega) (by omega) (by rw [List.length_append, HLN.out, le_len]; omega)).mono ?_); rintro e w2 ⟨rfl, v2, hW2, hE3⟩; have HK2 := Lib.hid (hW2.keep HK1.out.1 hne1 HK1.out.2); have HE3 := Lib.hid hE3; clear hW2 hE3; obtain ⟨z20, z21⟩ := HK2.out.1.cells2))
      go_wp2
      go_roundw
      case rel => exact ⟨k + 1, _, by omega, by go_num, by rw [HSN.out]; exact HE3.out⟩
      case measure => simp [intOf]; omega
    · obtain rfl : k = cs.length := by omega
      clear hE
      rw [List.take_length] at HE
      obtain ⟨z0, z1, z2, z3, z4⟩ := HE.out.box.cells5
      obtain ⟨nl, hnl⟩ : ∃ nl, nl = hdL sq sg ix ++ csL cs := ⟨_, rfl⟩
      have hln : nl.length = 12 + 9 * cs.length := by rw [hnl, List.length_append, hdL_len, csL_len]; omega
      rw [← hnl] at HE
      have HNL := Lib.hid hnl
      clear hnl
      go_wp2
      clear z0 z1 z2 z3 z4
      go_loopw [7, 38] (fun _ i wr => ∃ (k : Nat) (v : Value), k ≤ mp.length ∧ i = .int .i64 k ∧ Ec w wr 28 #[.int .u64 sq, .int .i64 ((sg : Int) - 1), .int .i64 ix, .slice A cs.length c, .slice B mp.length d] v (nl ++ mpL (mp.take k))) (fun _ i _ => mp.length - (intOf i).toNat)
      case atStart => exact ⟨0, _, by omega, rfl, by have := HE.out; simpa [mpL] using this⟩
      case round =>
        clear HE
        rename World => wi
        obtain ⟨k, v, hk, rfl, hE⟩ := hrel
        have HE := Lib.hid hE
        by_cases hlt : k < mp.length
        · obtain ⟨p, hp⟩ : ∃ p, mp[k]? = some p := ⟨_, List.getElem?_eq_getElem hlt⟩
          obtain ⟨x, rfl, c0⟩ := mps_at (HRB.out.later hE.bel) hp
          have p0 := HP.out p (List.mem_of_getElem? hp)
          have g1 : (k : Int) < mp.length := by omega
          have hsn : nl ++ mpL (mp.take (k + 1)) = nl ++ mpL (mp.take k) ++ le 4 p := by rw [take_snoc_pk hp, mpL_snoc]; simp only [List.append_assoc]
          have hln2 : (nl ++ mpL (mp.take k)).length = 12 + 9 * cs.length + k * 4 := by rw [List.length_append, mpL_len, List.length_take]; omega
          have HSN := Lib.hid hsn
          have HLN := Lib.hid hln2
          have u1 : IntKind.u64.wrap (p : Int) = p := by rw [IntKind.wrap_u64]; omega
          have u2 : IntKind.i64.wrap (p : Int) = p := IntWalk.i64_in _ (by omega)
          clear hE hp hsn hln2
          go_wp2_with (first
            | (go_at_call 27; (with_reducible refine (putE HE.out 4 p 4 p rfl rfl (by omega) (by omega) (by omega) (by rw [HLN.out]; omega)).mono ?_); rintro e w1 ⟨rfl, v1, -, hE2⟩; have HE2 := Lib.hid hE2; clear hE2)
            | fail "no")
          go_roundw
          case rel => exact ⟨k + 1, _, by omega, by go_num, by rw [HSN.out]; exact HE2.out⟩
          case measure => simp [intOf]; omega
        · obtain rfl : k = mp.length := by omega
          clear hE
          rw [List.take_length] at HE
          obtain ⟨ml, hml⟩ : ∃ ml, ml = nl ++ mpL mp := ⟨_, rfl⟩
          have hmll : ml.length = 12 + 9 * cs.length + 4 * mp.length := by rw [hml, List.length_append, mpL_len]; omega
          rw [← hml] at HE
          have HML := Lib.hid hml
          have HMLL : Hid (ml.length ≤ 1000000) := Lib.hid (by omega)
          clear hml hmll
          go_wp2_with (first
            | (go_at_call 31; (with_reducible refine (bytes_ok (w.heap.size + 2) (w.heap.size + 1) v ml 0 _ HE.out.wr (Nat.le_trans HMLL.out (by decide)) (by decide)).mono ?_); rintro e w5 ⟨r5, rfl, hown5, hB5⟩; have HE5 := Lib.hid (HE.out.later hB5); have hrd5 := own_formc hown5; rw [Int.toNat_zero, pad_long (Nat.zero_le _)] at hrd5; obtain ⟨A5, c5, rfl, hr5, hc5, -⟩ := hrd5; have HR5 := Lib.hid hr5; clear hown5 hB5 hr5)
            | fail "no")
          go_ret
          rw [show picL ⟨sq, sg, ix, cs, mp⟩ = ml from by rw [HML.out, HNL.out]; rfl]
          exact ⟨⟨A5, c5, rfl, HR5.out, hc5⟩, HE5.out.bel⟩
end Go.Proofs.Ytcpngnnnggpfpaa
namespace Go.Proofs.Ytcpngnnnggpfpaa
open Go.RowKit
attribute [local go_sem ↓] Go.wp_at_zero Go.wp_at_succ

/-! ### how many pages, how great -/
structure Gd (x : Sh) (T P g : Nat) : Prop where
  t : 12 + 9 * x.s + 4 * x.l = T
  b : x.b - 15 = g
  p : P = (T + g - 1) / g
  g1 : 1 ≤ g ∧ g ≤ 1000
  t1 : 12 ≤ T ∧ T ≤ 20000
theorem wr64 {x : Int} (h : -9223372036854775808 ≤ x) (g : x ≤ 9223372036854775807) : wrap64 x = x := by unfold wrap64; omega
theorem gd_of {x : Sh} (hb : 16 ≤ x.b ∧ x.b ≤ 1000) (hs : 0 ≤ x.s ∧ x.s ≤ 1000) (hl : 0 ≤ x.l ∧ x.l ≤ 2000) : ∃ T P g, Gd x T P g := by
  obtain ⟨g, hg⟩ := Int.eq_ofNat_of_zero_le (show 0 ≤ x.b - 15 by omega)
  obtain ⟨T, hT⟩ := Int.eq_ofNat_of_zero_le (show 0 ≤ 12 + 9 * x.s + 4 * x.l by omega)
  exact ⟨T, _, g, hT, hg, rfl, by omega, by omega⟩
section
variable {x : Sh} {T P g : Nat}
theorem Gd.lt (k : Gd x T P g) {i : Nat} (h : i < P) : i * g < T := by
  have h1 := k.g1
  have h2 := k.t1
  rw [k.p, Nat.lt_div_iff_mul_lt (by omega)] at h
  omega
theorem Gd.all (k : Gd x T P g) : T ≤ P * g := by
  have h1 := k.g1
  have h2 := Nat.div_add_mod (T + g - 1) g
  have h3 := Nat.mod_lt (T + g - 1) (show 0 < g by omega)
  rw [← k.p, Nat.mul_comm] at h2
  omega
theorem Gd.p1 (k : Gd x T P g) : 1 ≤ P ∧ P ≤ T := by
  have h1 := k.g1
  have h2 := k.t1
  rw [k.p]
  refine ⟨(Nat.one_le_div_iff (by omega)).2 (by omega), ?_⟩
  rw [Nat.div_le_iff_le_mul_add_pred (by omega)]
  have := Nat.mul_le_mul (show 1 ≤ g by omega) (Nat.le_refl T)
  omega
theorem Gd.fpages (k : Gd x T P g) : Q.geom_Shape_Pages.f x.m x.b x.s x.t x.n x.l = some (P : Int) := by
  have h1 := k.g1
  have h2 := k.t1
  have h3 := k.t
  have h4 := k.b
  unfold Q.geom_Shape_Pages.f Q.geom_Shape_Image.f Q.geom_Shape_Page.f
  simp only [Option.bind_some]
  have hb : wrap64 (x.b - 15) = g := by rw [wr64 (by omega) (by omega), h4]
  have hi : wrap64 (wrap64 (12 + wrap64 (9 * x.s)) + wrap64 (4 * x.l)) = T := by
    unfold wrap64
    omega
  rw [hb, hi, wr64 (x := (T : Int) + g) (by omega) (by omega), if_neg (by omega), wr64 (x := (T : Int) + g - 1) (by omega) (by omega)]
  have e : ((T : Int) + g - 1).tdiv (g : Int) = ((P : Nat) : Int) := by
    rw [show (T : Int) + g - 1 = ((T + g - 1 : Nat) : Int) by omega, Int.tdiv_eq_ediv_of_nonneg (by omega), k.p]
    rfl
  have h5 := k.p1
  rw [e, wr64 (by omega) (by omega)]
theorem Gd.pages (k : Gd x T P g) (W : World) : Calls Try.prog 26 #[.agg #[.int .i64 x.m, .int .i64 x.b, .int .i64 x.s, .int .i64 x.t, .int .i64 x.n, .int .i64 x.l]] W fun e w' => e = .returned (.int .i64 (P : Int)) ∧ Below W.heap.size W w' :=
  Q.geom_Shape_Pages.calls _ _ _ _ _ _ _ W k.fpages
theorem Gd.page (k : Gd x T P g) (W : World) : Calls Try.prog 29 #[.agg #[.int .i64 x.m, .int .i64 x.b, .int .i64 x.s, .int .i64 x.t, .int .i64 x.n, .int .i64 x.l]] W fun e w' => e = .returned (.int .i64 (g : Int)) ∧ Below W.heap.size W w' :=
  Q.geom_Shape_Page.calls _ _ _ _ _ _ _ W (by
    have h1 := k.g1
    have h4 := k.b
    unfold Q.geom_Shape_Page.f
    rw [wr64 (by omega) (by omega), h4])
end

/-! ### the pages -/
def pgB (gen g : Nat) (all : List Int) (i : Nat) : List Int := le 1 80 ++ le 8 gen ++ le 2 i ++ (all.drop (i * g)).take g
def pgL (gen g : Nat) (all : List Int) (i : Nat) : List Int := sealL (pad (pgB gen g all i) (g + 11))
def pgsL (gen g : Nat) (all : List Int) (P : Nat) : List (List Int) := (List.range P).map (pgL gen g all)
theorem pgB_len (gen g : Nat) (all : List Int) (i : Nat) : (pgB gen g all i).length ≤ g + 11 := by
  unfold pgB
  simp only [List.length_append, le_len, List.length_take]
  omega
theorem pad_len {xs : List Int} {n : Nat} (h : xs.length ≤ n) : (pad xs n).length = n := by unfold pad; simp; omega
theorem pad_oct {xs : List Int} (h : Oct xs) (n : Nat) : Oct (pad xs n) := h.app fun x hx => by
  have := List.eq_of_mem_replicate hx
  omega
theorem pgB_oct {all : List Int} (h : Oct all) (gen g i : Nat) : Oct (pgB gen g all i) := (((le_oct _ _).app (le_oct _ _)).app (le_oct _ _)).app ((h.drop _).take _)
theorem pgL_len (gen g : Nat) (all : List Int) (i : Nat) : (pgL gen g all i).length = g + 15 := by
  unfold pgL
  rw [sealL_len, pad_len (pgB_len _ _ _ _)]
theorem pgsL_snoc (gen g : Nat) (all : List Int) (k : Nat) : pgsL gen g all (k + 1) = pgsL gen g all k ++ [pgL gen g all k] := by simp [pgsL, List.range_succ]

/-! ### a writer in the next block -/
structure Wl (w0 W : World) (v : Value) (xs : List Int) : Prop where
  wr : Wr W (w0.heap.size + 1) w0.heap.size v xs
  bel : Below w0.heap.size w0 W
section
variable {w0 W W' : World} {v v' : Value} {xs ys : List Int}
theorem Wl.new (w : World) : Wl w (w.alloc (.cells #[.slice none 0 0] 61)) (.slice none 0 0) [] := ⟨⟨Blk.new_ _ _ _ rfl, World.ownsRow_nil _ _ _ _⟩, (Below.refl _ _).alloc (Nat.le_refl _) _⟩
theorem Wl.big (k : Wl w0 W v xs) : w0.heap.size + 1 ≤ W.heap.size := k.wr.own.lt
theorem Wl.later (k : Wl w0 W v xs) (h : Below W.heap.size W W') : Wl w0 W' v xs := ⟨k.wr.later h, k.bel.trans (h.mono k.bel.size)⟩
theorem Wl.dr (k : Wl w0 W v xs) : Wl w0 W.drew v xs := k.later (below_drewN (Below.refl _ _) 1)
theorem Wl.put (k : Wl w0 W v xs) (h : WrTo W W' (w0.heap.size + 1) w0.heap.size v v' ys) : Wl w0 W' v' ys :=
  ⟨h.wr, k.bel.trans (h.fr.toBelow k.bel.size (by
    rintro b hb (e | e)
    · omega
    · have := (k.wr.row.lt b e).1; omega))⟩
theorem putL (k : Wl w0 W v xs) (size n : Nat) (z m : Int) (hz : z = size) (hm : m = n) (h1 : 1 ≤ size) (h8 : size ≤ 8) (hn : n < 18446744073709551616) (hx : xs.length ≤ 1000000) :
    Calls Try.prog 27 #[.pointer (some ⟨w0.heap.size, 0, none⟩), .int .i64 z, .int .u64 m] W fun e w' => e = .returned (.pointer (some ⟨w0.heap.size, 0, none⟩)) ∧ ∃ v', Wl w0 w' v' (xs ++ le size n) := by
  subst hz hm
  refine (put_some (w0.heap.size + 1) w0.heap.size v xs size n W k.wr h1 h8 hn hx k.big).mono ?_
  rintro e w' ⟨rfl, v', h⟩
  exact ⟨rfl, v', k.put h⟩
theorem rawL (k : Wl w0 W v xs) (ys : List Int) (A : Option Addr) (n c : Nat) (hn : n = ys.length) (hr : Rd W A (byv ys)) (hx : xs.length ≤ 1000000) (hy : ys.length ≤ 1000000) :
    Calls Try.prog 28 #[.pointer (some ⟨w0.heap.size, 0, none⟩), .slice A n c] W fun e w' => e = .returned (.pointer (some ⟨w0.heap.size, 0, none⟩)) ∧ ∃ v', Wl w0 w' v' (xs ++ ys) := by
  subst hn
  refine (wraw_ok (w0.heap.size + 1) w0.heap.size v xs ys A c W k.wr hr hx hy k.big).mono ?_
  rintro e w' ⟨rfl, v', h⟩
  exact ⟨rfl, v', k.put h⟩
end

/-! ### none -/
set_option maxRecDepth 100000 in
set_option maxHeartbeats 6400000 in
theorem enc_none (x : Sh) (gen a b c : Int) (A B : Option Addr) (n1 c1 n2 c2 : Nat) (w : World) (h : chk x ≠ 0 ∨ (n1 : Int) ≠ x.s ∨ (n2 : Int) ≠ x.l) :
    Calls Try.prog 9 #[.agg #[.int .i64 x.m, .int .i64 x.b, .int .i64 x.s, .int .i64 x.t, .int .i64 x.n, .int .i64 x.l], .int .u64 gen, .agg #[.int .u64 a, .int .i64 b, .int .i64 c, .slice A n1 c1, .slice B n2 c2]] w fun e w' => e = .returned (.slice none 0 0) ∧ Below w.heap.size w w' := by
  obtain ⟨W0, hW0⟩ : ∃ W0, W0 = (w.alloc (.cells #[.int .i64 x.m, .int .i64 x.b, .int .i64 x.s, .int .i64 x.t, .int .i64 x.n, .int .i64 x.l] 23)).alloc (.cells #[.int .u64 a, .int .i64 b, .int .i64 c, .slice A n1 c1, .slice B n2 c2] 28) := ⟨_, rfl⟩
  have HB0 : Hid (Below w.heap.size w W0) := Lib.hid (by rw [hW0]; exact ((Below.refl _ _).alloc (Nat.le_refl _) _).alloc (by simp) _)
  have HS : Hid (Blk W0 w.heap.size 23 #[.int .i64 x.m, .int .i64 x.b, .int .i64 x.s, .int .i64 x.t, .int .i64 x.n, .int .i64 x.l]) := Lib.hid (by rw [hW0]; exact (Blk.new w 23 _).alloc _)
  have HI : Hid (Blk W0 (w.heap.size + 1) 28 #[.int .u64 a, .int .i64 b, .int .i64 c, .slice A n1 c1, .slice B n2 c2]) := Lib.hid (by rw [hW0]; exact Blk.new_ _ _ _ (by simp))
  obtain ⟨s0, s1, s2, s3, s4, s5⟩ : W0.cell? ⟨w.heap.size, 0, none⟩ = some (.int .i64 x.m) ∧ W0.cell? ⟨w.heap.size, 1, none⟩ = some (.int .i64 x.b) ∧ W0.cell? ⟨w.heap.size, 2, none⟩ = some (.int .i64 x.s) ∧ W0.cell? ⟨w.heap.size, 3, none⟩ = some (.int .i64 x.t) ∧ W0.cell? ⟨w.heap.size, 4, none⟩ = some (.int .i64 x.n) ∧ W0.cell? ⟨w.heap.size, 5, none⟩ = some (.int .i64 x.l) := ⟨HS.out.at_ rfl, HS.out.at_ rfl, HS.out.at_ rfl, HS.out.at_ rfl, HS.out.at_ rfl, HS.out.at_ rfl⟩
  have HW := Lib.hid hW0
  obtain ⟨k, hk⟩ : ∃ k, k = chk x := ⟨_, rfl⟩
  have hk01 : k = 0 ∨ k = 1 := by rw [hk]; unfold chk; split <;> simp
  rw [← hk] at h
  have HCK := Lib.hid (fun W => hk ▸ check_ok x W)
  rw [hW0] at s0 s1 s2 s3 s4 s5
  rcases hk01 with rfl | rfl
  · by_cases h1 : (n1 : Int) = x.s
    · have h2 : (n2 : Int) ≠ x.l := by
        rcases h with h | h | h
        · exact absurd rfl h
        · exact absurd h1 h
        · exact h
      have hd1 : ((n1 : Int) != x.s) = false := by rw [h1]; simp
      have hd0 : ((n1 : Int) == x.s) = true := by rw [h1]; simp
      have hd2 : ((n2 : Int) != x.l) = true := bne_iff_ne.2 h2
      have hd3 : ((n2 : Int) == x.l) = false := beq_eq_false_iff_ne.2 h2
      clear h h1 hW0 hk
      go_enter Try.func9, Try.ntmps9
      go_wp2_with (first
        | (go_at_call 8; (with_reducible refine (HCK.out _).mono ?_); rintro e w1 ⟨rfl, hb1⟩; have hb1' : Below W0.heap.size W0 w1 := by rw [HW.out]; exact hb1
           have HB1 := Lib.hid (HB0.out.trans (hb1'.mono HB0.out.size)); have t2 := (HS.out.later hb1').at_ (i := 2) rfl; have t5 := (HS.out.later hb1').at_ (i := 5) rfl; have i3 := (HI.out.later hb1').at_ (i := 3) rfl; have i4 := (HI.out.later hb1').at_ (i := 4) rfl; clear hb1 hb1')
        | fail "no")
      go_ret
      exact ⟨rfl, HB1.out⟩
    · have hd2 : ((n1 : Int) != x.s) = true := bne_iff_ne.2 h1
      have hd3 : ((n1 : Int) == x.s) = false := beq_eq_false_iff_ne.2 h1
      clear h hW0 hk
      go_enter Try.func9, Try.ntmps9
      go_wp2_with (first
        | (go_at_call 8; (with_reducible refine (HCK.out _).mono ?_); rintro e w1 ⟨rfl, hb1⟩; have hb1' : Below W0.heap.size W0 w1 := by rw [HW.out]; exact hb1
           have HB1 := Lib.hid (HB0.out.trans (hb1'.mono HB0.out.size)); have t2 := (HS.out.later hb1').at_ (i := 2) rfl; have i3 := (HI.out.later hb1').at_ (i := 3) rfl; clear hb1 hb1')
        | fail "no")
      go_ret
      exact ⟨rfl, HB1.out⟩
  · clear h hW0 hk
    go_enter Try.func9, Try.ntmps9
    go_wp2_with (first
      | (go_at_call 8; (with_reducible refine (HCK.out _).mono ?_); rintro e w1 ⟨rfl, hb1⟩; have hb1' : Below W0.heap.size W0 w1 := by rw [HW.out]; exact hb1
         have HB1 := Lib.hid (HB0.out.trans (hb1'.mono HB0.out.size)); clear hb1 hb1')
      | fail "no")
    go_ret
    exact ⟨rfl, HB1.out⟩

/-! ### the pages that it makes -/
/-- A slice of slices between calls. -/
def Sls (w : World) (e : Ending) (xs : List (List Int)) : Prop := ∃ A c l, e = .returned (.slice A xs.length c) ∧ rws l = xs ∧ Rd w A (scs l) ∧ Hsc w l ∧ xs.length ≤ c
theorem Blk.cells6 {w : World} {g : Nat} {t : TypeId} {a b c d e f : Value} (h : Blk w g t #[a, b, c, d, e, f]) : w.cell? ⟨g, 0, none⟩ = some a ∧ w.cell? ⟨g, 1, none⟩ = some b ∧ w.cell? ⟨g, 2, none⟩ = some c ∧ w.cell? ⟨g, 3, none⟩ = some d ∧ w.cell? ⟨g, 4, none⟩ = some e ∧ w.cell? ⟨g, 5, none⟩ = some f :=
  ⟨h.at_ rfl, h.at_ rfl, h.at_ rfl, h.at_ rfl, h.at_ rfl, h.at_ rfl⟩
attribute [local go_sem] go_max2 go_min2 go_max_two go_min_two
set_option maxRecDepth 100000 in
set_option maxHeartbeats 12800000 in
theorem enc_ok (x : Sh) (gen : Nat) (y : Pic) (A B : Option Addr) (c d T P g : Nat) (w : World) (hx : mayB x = true) (hg : Gd x T P g) (hgen : gen < 18446744073709551616) (ho : OkPic y) (hs : (y.cs.length : Int) = x.s) (hl : (y.mp.length : Int) = x.l) (ra : Rd w A (sgs y.cs)) (rb : Rd w B (mps y.mp)) :
    Calls Try.prog 9 #[.agg #[.int .i64 x.m, .int .i64 x.b, .int .i64 x.s, .int .i64 x.t, .int .i64 x.n, .int .i64 x.l], .int .u64 gen, .agg #[.int .u64 y.sq, .int .i64 ((y.sg : Int) - 1), .int .i64 y.ix, .slice A y.cs.length c, .slice B y.mp.length d]] w fun e w' => Sls w' e (pgsL gen g (picL y) P) ∧ Below w.heap.size w w' := by
  obtain ⟨W0, hW0⟩ : ∃ W0, W0 = (w.alloc (.cells #[.int .i64 x.m, .int .i64 x.b, .int .i64 x.s, .int .i64 x.t, .int .i64 x.n, .int .i64 x.l] 23)).alloc (.cells #[.int .u64 y.sq, .int .i64 ((y.sg : Int) - 1), .int .i64 y.ix, .slice A y.cs.length c, .slice B y.mp.length d] 28) := ⟨_, rfl⟩
  have HB0 : Hid (Below w.heap.size w W0) := Lib.hid (by rw [hW0]; exact ((Below.refl _ _).alloc (Nat.le_refl _) _).alloc (by simp) _)
  have HS : Hid (Blk W0 w.heap.size 23 #[.int .i64 x.m, .int .i64 x.b, .int .i64 x.s, .int .i64 x.t, .int .i64 x.n, .int .i64 x.l]) := Lib.hid (by rw [hW0]; exact (Blk.new w 23 _).alloc _)
  have HI : Hid (Blk W0 (w.heap.size + 1) 28 #[.int .u64 y.sq, .int .i64 ((y.sg : Int) - 1), .int .i64 y.ix, .slice A y.cs.length c, .slice B y.mp.length d]) := Lib.hid (by rw [hW0]; exact Blk.new_ _ _ _ (by simp))
  obtain ⟨s0, s1, s2, s3, s4, s5⟩ := HS.out.cells6
  have hck : chk x = 0 := by unfold chk; rw [if_pos hx]
  have HCK := Lib.hid (fun W => hck ▸ check_ok x W)
  have HRA := Lib.hid ra
  have HRB := Lib.hid rb
  have HO := Lib.hid ho
  have HG := Lib.hid hg
  have HW := Lib.hid hW0
  have hTl : (picL y).length = T := by have := picL_len y; have := hg.t; omega
  have hby := fun W (h1 : Rd W A (sgs y.cs)) (h2 : Rd W B (mps y.mp)) => bytes1_ok y A B c d W ho h1 h2
  obtain ⟨al, hal⟩ : ∃ al, al = picL y := ⟨_, rfl⟩
  have halo : Oct al := by rw [hal]; exact picL_oct y
  rw [← hal] at hby hTl ⊢
  have hby2 : ∀ W, Rd W A (sgs y.cs) → Rd W B (mps y.mp) → Calls Try.prog 25 #[.agg #[.int .u64 y.sq, .int .i64 ((y.sg : Int) - 1), .int .i64 y.ix, .slice A y.cs.length c, .slice B y.mp.length d]] W fun e w' => (∃ A1 c1, e = .returned (.slice A1 T c1) ∧ Rd w' A1 (byv al) ∧ T ≤ c1) ∧ Below W.heap.size W w' := fun W h1 h2 => by
    refine (hby W h1 h2).mono ?_
    rintro e w' ⟨⟨A1, c1, rfl, hr, hc⟩, hb⟩
    rw [hTl] at hc ⊢
    exact ⟨⟨A1, c1, rfl, hr, hc⟩, hb⟩
  have HBY := Lib.hid hby2
  have HTL := Lib.hid hTl
  have HAO := Lib.hid halo
  have hg1 := hg.g1
  have ht1 := hg.t1
  have hp1 := hg.p1
  have hxb := hg.b
  have hd1 : ((y.cs.length : Int) != x.s) = false := by rw [hs]; simp
  have hd2 : ((y.mp.length : Int) != x.l) = false := by rw [hl]; simp
  have hd3 : ((y.cs.length : Int) == x.s) = true := by rw [hs]; simp
  have hd4 : ((y.mp.length : Int) == x.l) = true := by rw [hl]; simp
  rw [hW0] at s0 s1 s2 s3 s4 s5
  clear hx hg ho hal ra rb hW0 hck hby hby2 hTl halo
  go_enter Try.func9, Try.ntmps9
  go_wp2_with (first
    | (go_at_call 8; (with_reducible refine (HCK.out _).mono ?_); rintro e w1 ⟨rfl, hb1⟩; have hb1' : Below W0.heap.size W0 w1 := by rw [HW.out]; exact hb1
       have HB1 := Lib.hid (HB0.out.trans (hb1'.mono HB0.out.size)); have HS1 := Lib.hid (HS.out.later hb1'); obtain ⟨t0, t1, t2, t3, t4, t5⟩ := HS1.out.cells6; obtain ⟨i0, i1, i2, i3, i4⟩ := (HI.out.later hb1').cells5; clear hb1 hb1')
    | (go_at_call 25; (with_reducible refine (HBY.out _ (HRA.out.later HB1.out) (HRB.out.later HB1.out)).mono ?_); rintro e w2 ⟨⟨A1, c1, rfl, hr1, hc1⟩, hb2⟩; have HB2 := Lib.hid (HB1.out.trans (hb2.mono HB1.out.size)); have HS2 := Lib.hid (HS1.out.later hb2); obtain ⟨y0, y1, y2, y3, y4, y5⟩ := HS2.out.cells6; have HR2 := Lib.hid hr1; clear hb2 hr1)
    | (go_at_call 26; (with_reducible refine (HG.out.pages _).mono ?_); rintro e w3 ⟨rfl, hb3⟩; have HB3 := Lib.hid (HB2.out.trans (hb3.mono HB2.out.size)); have HS3 := Lib.hid (HS2.out.later hb3); have HR3 := Lib.hid (HR2.out.later hb3); clear hb3)
    | fail "no")
  clear s0 s1 s2 s3 s4 s5 t0 t1 t2 t3 t4 t5 i0 i1 i2 i3 i4 y0 y1 y2 y3 y4 y5 HS2 HS1 HS HI HB2 HB1 HB0 HCK HRA HRB HBY HW HR2 hd1 hd2 hd3 hd4
  obtain ⟨S, hS⟩ : ∃ S, S = w.heap.size := ⟨_, rfl⟩
  have HSS := Lib.hid hS
  rw [← hS] at HS3 ⊢
  clear hS
  obtain ⟨i0, hi0, hz0, hz1, hz2⟩ := info_parts (show (Try.prog.info? 47).map (fun i => (i.zero, i.size, i.bytes)) = some (some (.slice none 0 0), 1, 24) by kernel_rfl)
  go_loopw [8, 9, 10, 34] (fun v _ _ i wr => ∃ k es, k ≤ P ∧ i = .int .i64 (k : Nat) ∧ es.length = k ∧ rws es = pgsL gen g al k ∧ Al w3 wr v es) (fun _ _ _ i _ => P - (intOf i).toNat)
  case atStart => exact ⟨0, [], by omega, rfl, rfl, rfl, Al.nil w3⟩
  case round =>
    obtain ⟨k, es, hk, rfl, hel, hes, hA⟩ := hrel
    by_cases hlt : k < P
    · have hlo := HG.out.lt hlt
      obtain ⟨lo, hlo2⟩ : ∃ lo, lo = k * g := ⟨_, rfl⟩
      obtain ⟨lp, hlp⟩ : ∃ lp, lp = (k + 1) * g := ⟨_, rfl⟩
      have hlpg : lp = lo + g := by rw [hlp, hlo2, Nat.succ_mul]
      obtain ⟨hi, hhi⟩ : ∃ hi, hi = min lp T := ⟨_, rfl⟩
      rw [← hlo2] at hlo
      have m1 : IntKind.i64.wrap ((k : Int) * (g : Int)) = (lo : Int) := by rw [show (k : Int) * (g : Int) = (lo : Int) by rw [hlo2]; rfl]; exact IntWalk.i64_in _ (by omega)
      have m2 : IntKind.i64.wrap (((k : Int) + 1) * (g : Int)) = (lp : Int) := by rw [show ((k : Int) + 1) * (g : Int) = (lp : Int) by rw [hlp]; rfl]; exact IntWalk.i64_in _ (by omega)
      have m3 : mxI 0 0 = 0 := rfl
      have m4 : mnI (lp : Int) (T : Int) = (hi : Int) := by unfold mnI; split <;> omega
      have m5 : IntKind.i64.wrap ((k : Int) + 1) = (k : Int) + 1 := IntWalk.i64_in _ (by omega)
      have m6 : IntKind.u64.wrap (k : Int) = k := by rw [IntKind.wrap_u64]; omega
      have q1 : lo ≤ hi := by omega
      have q2 : hi ≤ c1 := by omega
      have q0 : (0 : Int) ≤ lo := by omega
      have q1' : (lo : Int) ≤ hi := by omega
      have q2' : (hi : Int) ≤ c1 := by omega
      obtain ⟨A3, hA3⟩ : ∃ A3, A3 = (if c1 = lo then A1 else A1.map (·.add (lo * 1))) := ⟨_, rfl⟩
      have hcut := fun W => cut_lh_ 47 1 Try.underlying47 (fun _ => by kernel_rfl) A1 T c1 lo hi (lo : Int) (hi : Int) rfl rfl q1 q2 W
      rw [← hA3] at hcut
      have hcr : ∀ W, Rd W A1 (byv al) → Rd W A3 (byv ((al.drop (k * g)).take g)) := fun W hW => by
        have := (hW.cutg (size := 1) (c := c1) (n := lo) (len := T) (by rw [byv_len, HTL.out, Nat.mul_one]) hc1).take_ g
        rw [← hA3, Nat.mul_one, ← byv_drop, ← byv_take, hlo2] at this
        exact this
      have hcl : ((al.drop (k * g)).take g).length = hi - lo := by rw [List.length_take, List.length_drop, HTL.out, ← hlo2]; omega
      have HCR := Lib.hid hcr
      have HCL := Lib.hid hcl
      have HAL := Lib.hid hA
      have HES := Lib.hid hes
      have HEL := Lib.hid hel
      have hk2 : k ≤ 20000 := by omega
      obtain ⟨A7, c7, rfl, -, -, -⟩ := own_formc hA.row
      have hrow : ∀ W, Below wr.heap.size wr W → Al w3 W (.slice A7 es.length c7) es := fun W h => HAL.out.later h
      have HROW := Lib.hid hrow
      have HW0 := Lib.hid (Wl.new wr)
      have HHI : Hid (hi - lo ≤ 1000) := Lib.hid (by omega)
      have HSW : Hid (∀ W, Below wr.heap.size wr W → Blk W S 23 #[.int .i64 x.m, .int .i64 x.b, .int .i64 x.s, .int .i64 x.t, .int .i64 x.n, .int .i64 x.l]) := Lib.hid fun W h => (HS3.out.later HAL.out.bel).later h
      have HRW : Hid (∀ W, Below wr.heap.size wr W → Rd W A1 (byv al)) := Lib.hid fun W h => (HR3.out.later HAL.out.bel).later h
      clear hA hes hel hcr hcl hlo2 hlp hhi hA3 hrow hlo hlpg
      go_wp2
      have HBX : Hid (Below wr.heap.size wr (wr.alloc (.cells #[.slice none 0 0] 61))) := Lib.hid HW0.out.bel
      generalize wr.alloc (.cells #[.slice none 0 0] 61) = W1 at HW0 HBX ⊢
      obtain ⟨s0, s1, s2, s3, s4, s5⟩ := (HSW.out _ HBX.out).cells6
      go_region_held3 (fun w' => w'.cell? ⟨S, 0, none⟩ = some (.int .i64 x.m) ∧ w'.cell? ⟨S, 1, none⟩ = some (.int .i64 x.b) ∧ w'.cell? ⟨S, 2, none⟩ = some (.int .i64 x.s) ∧ w'.cell? ⟨S, 3, none⟩ = some (.int .i64 x.t) ∧ w'.cell? ⟨S, 4, none⟩ = some (.int .i64 x.n) ∧ w'.cell? ⟨S, 5, none⟩ = some (.int .i64 x.l))
        (exact ⟨by assumption, by assumption, by assumption, by assumption, by assumption, by assumption⟩)
        (first
          | (go_at_call 27; (with_reducible refine (putL HW0.out.dr 1 80 1 80 rfl rfl (by omega) (by omega) (by omega) (by simp)).mono ?_); rintro e u1 ⟨rfl, v1, hw1⟩; have HW1 := Lib.hid hw1; clear hw1; obtain ⟨a0, a1, a2, a3, a4, a5⟩ := (HSW.out _ HW1.out.bel).cells6)
          | (go_at_call 27; (with_reducible refine (putL HW1.out 8 gen 8 gen rfl rfl (by omega) (by omega) hgen (by simp [le_len])).mono ?_); rintro e u2 ⟨rfl, v2, hw2⟩; have HW2 := Lib.hid hw2; clear hw2; obtain ⟨b0, b1, b2, b3, b4, b5⟩ := (HSW.out _ HW2.out.bel).cells6)
          | (go_at_call 27; (with_reducible refine (putL HW2.out 2 k 2 k rfl rfl (by omega) (by omega) (by omega) (by simp [le_len])).mono ?_); rintro e u3 ⟨rfl, v3, hw3⟩; have HW3 := Lib.hid hw3; clear hw3; obtain ⟨d0, d1, d2, d3, d4, d5⟩ := (HSW.out _ HW3.out.bel).cells6)
          | (go_at_call 28; (with_reducible refine (rawL HW5.out ((al.drop (k * g)).take g) A3 (hi - lo) (c1 - lo) HCL.out.symm (HCR.out _ (HRW.out _ HW5.out.bel)) (by simp [le_len]) (by rw [HCL.out]; exact Nat.le_trans HHI.out (by decide))).mono ?_); rintro e u6 ⟨rfl, v6, hw6⟩; have HW6 := Lib.hid hw6; clear hw6; obtain ⟨h0, h1, h2, h3, h4, h5⟩ := (HSW.out _ HW6.out.bel).cells6)
          | (go_at_call 29; (with_reducible refine (HG.out.page u4).mono ?_); rintro e u5 ⟨rfl, hb5⟩; have HW5 := Lib.hid (HW4.out.later hb5); clear hb5; obtain ⟨f0, f1, f2, f3, f4, f5⟩ := (HSW.out _ HW5.out.bel).cells6)
          | (go_at_call 29; (with_reducible refine (HG.out.page u3).mono ?_); rintro e u4 ⟨rfl, hb4⟩; have HW4 := Lib.hid (HW3.out.later hb4); clear hb4; obtain ⟨e0, e1, e2, e3, e4, e5⟩ := (HSW.out _ HW4.out.bel).cells6)
          | fail "no arm")
      obtain ⟨bd, hbd⟩ : ∃ bd, bd = pgB gen g al k := ⟨_, rfl⟩
      have hw6 := HW6.out
      rw [show [] ++ le 1 80 ++ le 8 gen ++ le 2 k ++ (al.drop (k * g)).take g = bd by rw [hbd]; unfold pgB; rw [List.nil_append]] at hw6
      have hbl : bd.length ≤ g + 11 := by rw [hbd]; exact pgB_len _ _ _ _
      obtain ⟨pd, hpd⟩ : ∃ pd, pd = pad bd (g + 11) := ⟨_, rfl⟩
      have hpl : pd.length = g + 11 := by rw [hpd]; exact pad_len hbl
      have hpo : Oct pd := by rw [hpd]; exact pad_oct (by rw [hbd]; exact pgB_oct HAO.out _ _ _) _
      have htn : (x.b - 4).toNat = g + 11 := by omega
      have hseal : sealL pd = pgL gen g al k := by rw [hpd, hbd]; rfl
      have HW7 := Lib.hid hw6
      have HBL := Lib.hid hbl
      have HPL := Lib.hid hpl
      have HPO := Lib.hid hpo
      have HTN := Lib.hid htn
      have HPD := Lib.hid hpd
      have HSE := Lib.hid hseal
      have hsl : (sealL pd).length = g + 15 := by rw [sealL_len, hpl]
      have HSL := Lib.hid hsl
      clear a0 a1 a2 a3 a4 a5 b0 b1 b2 b3 b4 b5 d0 d1 d2 d3 d4 d5 e0 e1 e2 e3 e4 e5 f0 f1 f2 f3 f4 f5 s0 s1 s2 s3 s4 s5 m1 m2 m3 m4 m5 m6 hcut HW6 HW5 HW4 HW3 HW2 HW1 HW0 hw6 hbl hpl hpo htn hpd hbd hseal hsl
      go_wp2_with (first
        | (go_at_call 31; (with_reducible refine (bytes_ok (wr.heap.size + 1) wr.heap.size v6 bd (x.b - 4) _ HW7.out.wr (Nat.le_trans HBL.out (by omega)) (by omega)).mono ?_); rintro e ua ⟨ra, rfl, howna, hba⟩; rw [HTN.out, ← HPD.out, HPL.out] at howna; obtain ⟨Aa, ca, rfl, hra, -, -⟩ := own_formc howna; have HRa := Lib.hid hra; have HWa := Lib.hid (HW7.out.later hba); clear howna hba hra)
        | (go_at_call 30; (with_reducible refine (HPL.out ▸ seal_ok Aa ca pd ua HRa.out (by rw [HPL.out]; omega) HPO.out).mono ?_); rintro e us ⟨rs, rfl, howns, hbs⟩; have HBs := Lib.hid (HWa.out.bel.trans (hbs.mono HWa.out.bel.size)); have HAS := Lib.hid (HROW.out _ HBs.out); obtain ⟨As, cs, rfl, how⟩ := ow_of (w0 := w3) howns rfl (Nat.le_trans HAL.out.bel.size HWa.out.bel.size); have HOW := Lib.hid how; rw [HSL.out]; clear howns how hbs)
        | (at_builtin; refine wpList_append_any _ rfl _ _ 29 rfl w3.heap.size 47 i0 _ 1 24 Try.underlying29 hi0 hz0 hz1 hz2 rfl (by decide) (.slice A7 es.length c7) es.length (scs es) rfl (HAS.out.row.alloc _) (some ⟨us.heap.size, 0, none⟩) 1 1 [.slice As (g + 15) cs] rfl rfl (Rd.blk_all (xs := [.slice As (g + 15) cs]) (Blk.new us 47 _)) (by intro u hu; simp at hu; subst hu; rfl) (by rw [HEL.out]; unfold maxLen; omega) (by rw [HEL.out]; omega) (by have := HAS.out.bel.size; simp; omega) ?_; intro v8 w8 hown8 hg8 hat8; rw [show [Value.slice As (g + 15) cs] = scs [⟨As, sealL pd, cs⟩] by simp [scs, scv, HSL.out]] at hown8; have HA8 := Lib.hid ((HAS.out.later ((Below.refl _ _).alloc (Nat.le_refl _) (.cells #[.slice As (g + 15) cs] 47))).push (HOW.out.later ((Below.refl _ _).alloc (Nat.le_refl _) _)) hg8 hown8); clear hown8 hg8 hat8)
        | fail "no")
      go_roundw
      case rel => exact ⟨k + 1, es ++ [⟨As, sealL pd, cs⟩], by omega, by go_num, by rw [List.length_append, HEL.out]; rfl, by rw [rws_app, HES.out, pgsL_snoc, ← HSE.out]; rfl, HA8.out⟩
      case measure => simp [intOf]; omega
    · obtain rfl : k = P := by omega
      obtain ⟨A7, c7, rfl, hr7, hc7, -⟩ := own_formc hA.row
      have HA := Lib.hid hA
      have HEL := Lib.hid hel
      have HR7 := Lib.hid hr7
      have HES := Lib.hid hes
      clear hA hel hr7 hes
      go_wp2
      go_ret
      have hpl : (pgsL gen g al k).length = es.length := by rw [← HES.out, rws_len]
      exact ⟨⟨A7, c7, es, by rw [hpl]; rfl, HES.out, HR7.out, HA.out.hsc, by rw [hpl]; exact hc7⟩, HB3.out.trans (HA.out.bel.mono HB3.out.size)⟩
end Go.Proofs.Ytcpngnnnggpfpaa
