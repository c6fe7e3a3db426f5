/- The walk of the law's reads. No further condition. -/
import Derived.Test.YtcgodkahkgpojaaSk
namespace Go.Proofs.Ytcgodkahkgpojaa
open Go.RowKit
attribute [local go_sem ↓] Go.wp_at_zero Go.wp_at_succ

theorem nf_zero (xs : List Int) (i : Nat) : nf xs i 0 = 0 := by simp [nf, num]
theorem nf_cons {xs : List Int} (ho : Oct xs) {i n : Nat} {x : Int} (hx : xs[i]? = some x) (h8 : n + 1 ≤ 8) : (nf xs i (n + 1) : Int) = x + 256 * (nf xs (i + 1) n : Int) := by
  rw [← nf_cast' ho i h8, ← nf_cast' ho (i + 1) (by omega)]
  obtain ⟨hi, rfl⟩ := List.getElem?_eq_some_iff.1 hx
  rw [List.drop_eq_getElem_cons hi, List.take_succ_cons]
  rfl
set_option maxHeartbeats 3200000 in
theorem at_ok (g : Nat) (A : Option Addr) (c : Nat) (xs : List Int) (i size : Nat) (z y : Int) (hz : z = i) (hy : y = size) (w : World) (hb : Blk w g 31 #[.slice A xs.length c]) (hr : Rd w A (byv xs)) (ho : Oct xs) (hx : xs.length ≤ 1000000) (h : i + size ≤ xs.length) (h8 : size ≤ 4) :
    Calls Try.prog 26 #[.int .i64 z, .int .i64 y, .pointer (some ⟨g, 0, none⟩)] w fun e w' => e = .returned (.int .i64 (nf xs i size)) ∧ w' = w := by
  subst hz hy
  have hc := hb.cells1
  have HR := Lib.hid hr
  have HO := Lib.hid ho
  have hil : (i : Int) ≤ 1000000 := by omega
  have hsl : (size : Int) ≤ 4 := by omega
  clear hb hr ho
  go_enter Try.func26, Try.ntmps26
  go_wp2
  go_loopw [6, 7] (fun n k wr => wr = w ∧ ∃ j : Nat, j ≤ size ∧ k = .int .i64 ((j : Int) - 1) ∧ n = .int .i64 (nf xs (i + j) (size - j))) (fun _ k _ => (intOf k + 1).toNat)
  case atStart => exact ⟨rfl, size, Nat.le_refl _, rfl, by rw [Nat.sub_self, nf_zero]; rfl⟩
  case round =>
    obtain ⟨rfl, j, hj, rfl, rfl⟩ := hrel
    rcases j with _ | j
    · have hd : decide ((0 : Int) ≤ ((0 : Nat) : Int) - 1) = false := by decide
      go_wp2
      go_ret
      exact ⟨by simp, rfl⟩
    · obtain ⟨x, hx1⟩ : ∃ x, xs[i + j]? = some x := ⟨_, List.getElem?_eq_getElem (by omega)⟩
      obtain ⟨ad, rfl, hcx⟩ := HR.out (i + j) (.int .u8 x) (by simp [byv, hx1])
      have hxo := HO.out x (List.mem_of_getElem? hx1)
      have hn := nf_cons HO.out hx1 (n := size - (j + 1)) (by omega)
      rw [show size - (j + 1) + 1 = size - j by omega, show i + j + 1 = i + (j + 1) by omega] at hn
      have hlt := nf_lt HO.out (i + (j + 1)) (n := size - (j + 1)) (by omega)
      have hp : (256 : Nat) ^ (size - (j + 1)) ≤ 256 ^ 3 := Nat.pow_le_pow_right (by decide) (by omega)
      obtain ⟨n, hnn⟩ : ∃ n, n = nf xs (i + (j + 1)) (size - (j + 1)) := ⟨_, rfl⟩
      rw [← hnn] at hn hlt ⊢
      have hn7 : n < 16777216 := Nat.lt_of_lt_of_le hlt hp
      have HN := Lib.hid hn
      obtain ⟨hx0, hx2⟩ := hxo
      have e0 : ((j + 1 : Nat) : Int) - 1 = (j : Int) := by omega
      have w1 : IntKind.i64.wrap ((n : Int) * 256) = n * 256 := IntWalk.i64_in _ (by omega)
      have w2 : IntKind.i64.wrap x = x := IntWalk.i64_in _ (by omega)
      have w3 : IntKind.i64.wrap ((n : Int) * 256 + x) = n * 256 + x := IntWalk.i64_in _ (by omega)
      have hjl : (j : Int) ≤ 4 := by omega
      have hij : (i : Int) + j < xs.length := by omega
      have hnat : ((i : Int) + j).toNat = i + j := by omega
      rw [e0]
      clear hx1 hlt hp hnn hn e0
      go_wp2
      go_roundw
      case rel => exact ⟨trivial, j, by omega, rfl, by rw [HN.out, Int.add_comm x, Int.mul_comm 256]⟩
      case measure => simp [intOf]
theorem read_end {Q : Ending → World → Prop} (t : Array Value) (W : World) {R : Nat} {a b c d e f k : Value} (hb : Blk W R 29 #[a, b, c, d, e, f, k]) {code : Int} (h4 : t.getD 2 undef = .pointer (some ⟨R, 0, none⟩)) (h5 : t.getD 3 undef = .int .i64 code)
    (hQ : Q (.returned (.tuple #[.agg #[a, b, c, d, e, f, k], .int .i64 code])) W) : bodyPost Try.prog Try.f14 Q Exit.ret ⟨t, []⟩ W :=
  bodyPost_ret (results_cell2_row (fn := Try.f14) (p := 2) (u := 3) (ty := 29) (by kernel_rfl) _ h4 hb Try.underlying29 rfl (by kernel_rfl)) rfl (by rw [h5]; exact hQ)
/-- While the law reads a label: the box of the bytes, the result's block. -/
structure Dq (w0 w : World) (bx : Value) : Prop where
  box : Blk w w0.heap.size 31 #[bx]
  res : Blk w (w0.heap.size + 1) 29 #[.int .i64 0, .int .i64 0, .int .i64 0, .int .i64 0, .int .i64 0, .int .i64 0, .int .i64 0]
  bel : Below w0.heap.size w0 w
/-- And the label. -/
structure Dy (w0 w : World) (X : Nat) (cs : Array Value) (bx : Value) : Prop where
  dq : Dq w0 w bx
  lab : Blk w X 29 cs
  far : w0.heap.size + 1 < X
section
variable {w0 w w' : World} {X : Nat} {cs : Array Value} {bx : Value}
theorem Dq.later (k : Dq w0 w bx) (h : Below w.heap.size w w') : Dq w0 w' bx := ⟨k.box.later h, k.res.later h, k.bel.trans (h.mono k.bel.size)⟩
theorem Dy.later (k : Dy w0 w X cs bx) (h : Below w.heap.size w w') : Dy w0 w' X cs bx := ⟨k.dq.later h, k.lab.later h, k.far⟩
theorem Dq.dr (k : Dq w0 w bx) : Dq w0 w.drew bx := k.later (Below.refl _ _).drew
theorem Dq.done (k : Dq w0 w bx) (a b c d e f g : Value) : ∃ W, W = (((((((w.setCell ⟨w0.heap.size + 1, 0, none⟩ a).setCell ⟨w0.heap.size + 1, 1, none⟩ b).setCell ⟨w0.heap.size + 1, 2, none⟩ c).setCell ⟨w0.heap.size + 1, 3, none⟩ d).setCell ⟨w0.heap.size + 1, 4, none⟩ e).setCell ⟨w0.heap.size + 1, 5, none⟩ f).setCell ⟨w0.heap.size + 1, 6, none⟩ g) ∧ Blk W (w0.heap.size + 1) 29 #[a, b, c, d, e, f, g] ∧ Below w0.heap.size w0 W := by
  have hz := set7 k.res a b c d e f g
  exact ⟨_, rfl, hz.1, k.bel.trans (hz.2.toBelow k.bel.size fun b hb e => by omega)⟩
end
set_option maxRecDepth 100000 in
set_option maxHeartbeats 3200000 in
theorem reads_size (A : Option Addr) (n c : Nat) (w : World) (hn : n < 22) :
    Calls Try.prog 14 #[.slice A n c] w fun e w' => e = .returned (.tuple #[.agg z7, .int .i64 6]) ∧ Below w.heap.size w w' := by
  have hb0 := Blk.new w 31 #[.slice A n c]
  have hbl := (Below.refl w.heap.size w).alloc (Nat.le_refl _) (.cells #[.slice A n c] 31)
  have HN := Lib.hid (Blk.new_ (w.alloc (.cells #[.slice A n c] 31)) 29 #[.int .i64 0, .int .i64 0, .int .i64 0, .int .i64 0, .int .i64 0, .int .i64 0, .int .i64 0] (n := w.heap.size + 1) (by simp))
  have HB := Lib.hid (hbl.alloc (by simp) (.cells #[.int .i64 0, .int .i64 0, .int .i64 0, .int .i64 0, .int .i64 0, .int .i64 0, .int .i64 0] 29))
  have d1 : decide ((n : Int) < 22) = true := by simp; omega
  clear hb0 hbl
  go_enter Try.func14, Try.ntmps14
  go_wp2
  exact read_end _ _ HN.out rfl rfl ⟨rfl, HB.out⟩
theorem mayE (m b s t n l : Int) (r : Bool) (h : mayB ⟨m, b, s, t, n, l⟩ = r) (W : World) : Calls Try.prog 27 #[.agg #[.int .i64 m, .int .i64 b, .int .i64 s, .int .i64 t, .int .i64 n, .int .i64 l]] W fun e w' => e = .returned (.bool r) ∧ Below W.heap.size W w' := by
  rw [← h]
  exact may_ok ⟨m, b, s, t, n, l⟩ W
set_option maxRecDepth 100000 in
set_option maxHeartbeats 12800000 in
theorem reads_rest (A : Option Addr) (c : Nat) (xs : List Int) (w : World) (hr : Rd w A (byv xs)) (hx : xs.length ≤ 100000) (hc : xs.length ≤ c) (ho : Oct xs) (hs : 22 ≤ xs.length) :
    Calls Try.prog 14 #[.slice A xs.length c] w fun e w' => e = .returned (.tuple #[.agg (dLab xs), .int .i64 (dCode xs)]) ∧ Below w.heap.size w w' := by
  have hmf : ∀ (W : World) (vs : Array Value), (Instr.makeFunc (.func 26) #[] vs).run Try.prog W = .ok (.func (.func 26) #[] vs) W := fun _ _ => rfl
  obtain ⟨ys, hys⟩ : ∃ ys, ys = xs.take 18 := ⟨_, rfl⟩
  obtain ⟨zs, hzs⟩ : ∃ zs, zs = xs.take 22 := ⟨_, rfl⟩
  have hyl : ys.length = 18 := by rw [hys, List.length_take]; omega
  have hzl : zs.length = 22 := by rw [hzs, List.length_take]; omega
  have hyo : Oct ys := by rw [hys]; exact ho.take _
  have hq0 : Dq w ((w.alloc (.cells #[.slice A xs.length c] 31)).alloc (.cells #[.int .i64 0, .int .i64 0, .int .i64 0, .int .i64 0, .int .i64 0, .int .i64 0, .int .i64 0] 29)) (.slice A xs.length c) :=
    ⟨(Blk.new w 31 _).alloc _, Blk.new_ _ _ _ (by simp), ((Below.refl _ _).alloc (Nat.le_refl _) _).alloc (by simp) _⟩
  have HQ0 := Lib.hid hq0
  have c0 := hq0.box.cells1
  have hcut := fun W => cut_lo_ 31 1 Try.underlying31 (fun _ => by kernel_rfl) A xs.length c 22 22 rfl (by omega) W
  have hcut4 := fun W => cut_lo_ 31 1 Try.underlying31 (fun _ => by kernel_rfl) A xs.length c 18 18 rfl (by omega) W
  have d3 : decide ((xs.length : Int) < 22) = false := by simp; omega
  have HRW := Lib.hid hr
  have HXL := Lib.hid hs
  have hse : (zs = sealL ys) ↔ Sealed22 xs := by rw [hzs, hys]; exact Iff.rfl
  have HSE := Lib.hid hse
  have hseal := fun W (hW : Rd W A (byv xs)) => sealed_ok A c ys W (by rw [hys, byv_take]; exact hW.take _) (by omega) hyo
  rw [hyl] at hseal
  have HSEAL := Lib.hid hseal
  have heq := fun W B d (hW : Rd W A (byv xs)) (hB : Rd W B (byv (sealL ys))) => equalb_ok A B c d zs (sealL ys) W (by rw [hzs, byv_take]; exact hW.take _) hB (by omega)
  rw [hzl] at heq
  have HEQ := Lib.hid heq
  obtain ⟨mk, hmk⟩ : ∃ mk, mk = nf xs 0 4 := ⟨_, rfl⟩
  have bmk : mk < 4294967296 := by rw [hmk]; exact nf_lt ho 0 (n := 4) (by decide)
  obtain ⟨kk, hkk⟩ : ∃ kk, kk = nf xs 4 1 := ⟨_, rfl⟩
  have bkk : kk < 256 := by rw [hkk]; exact nf_lt ho 4 (n := 1) (by decide)
  obtain ⟨vm, hvm⟩ : ∃ vm, vm = nf xs 5 1 := ⟨_, rfl⟩
  have bvm : vm < 256 := by rw [hvm]; exact nf_lt ho 5 (n := 1) (by decide)
  obtain ⟨vb, hvb⟩ : ∃ vb, vb = nf xs 6 2 := ⟨_, rfl⟩
  have bvb : vb < 65536 := by rw [hvb]; exact nf_lt ho 6 (n := 2) (by decide)
  obtain ⟨vs, hvs⟩ : ∃ vs, vs = nf xs 8 2 := ⟨_, rfl⟩
  have bvs : vs < 65536 := by rw [hvs]; exact nf_lt ho 8 (n := 2) (by decide)
  obtain ⟨vt, hvt⟩ : ∃ vt, vt = nf xs 10 2 := ⟨_, rfl⟩
  have bvt : vt < 65536 := by rw [hvt]; exact nf_lt ho 10 (n := 2) (by decide)
  obtain ⟨vn, hvn⟩ : ∃ vn, vn = nf xs 12 2 := ⟨_, rfl⟩
  have bvn : vn < 65536 := by rw [hvn]; exact nf_lt ho 12 (n := 2) (by decide)
  obtain ⟨vl, hvl⟩ : ∃ vl, vl = nf xs 14 4 := ⟨_, rfl⟩
  have bvl : vl < 4294967296 := by rw [hvl]; exact nf_lt ho 14 (n := 4) (by decide)
  have HA0 : Hid (∀ W, Dq w W (.slice A xs.length c) → Calls Try.prog 26 #[.int .i64 0, .int .i64 4, .pointer (some ⟨w.heap.size, 0, none⟩)] W fun e w' => e = .returned (.int .i64 mk) ∧ w' = W) := Lib.hid (fun W q => by rw [hmk]; exact at_ok w.heap.size A c xs 0 4 0 4 rfl rfl W q.box (hr.later q.bel) ho (by omega) (by omega) (by omega))
  have HA1 : Hid (∀ W, Dq w W (.slice A xs.length c) → Calls Try.prog 26 #[.int .i64 4, .int .i64 1, .pointer (some ⟨w.heap.size, 0, none⟩)] W fun e w' => e = .returned (.int .i64 kk) ∧ w' = W) := Lib.hid (fun W q => by rw [hkk]; exact at_ok w.heap.size A c xs 4 1 4 1 rfl rfl W q.box (hr.later q.bel) ho (by omega) (by omega) (by omega))
  have HA2 : Hid (∀ W, Dq w W (.slice A xs.length c) → Calls Try.prog 26 #[.int .i64 5, .int .i64 1, .pointer (some ⟨w.heap.size, 0, none⟩)] W fun e w' => e = .returned (.int .i64 vm) ∧ w' = W) := Lib.hid (fun W q => by rw [hvm]; exact at_ok w.heap.size A c xs 5 1 5 1 rfl rfl W q.box (hr.later q.bel) ho (by omega) (by omega) (by omega))
  have HA3 : Hid (∀ W, Dq w W (.slice A xs.length c) → Calls Try.prog 26 #[.int .i64 6, .int .i64 2, .pointer (some ⟨w.heap.size, 0, none⟩)] W fun e w' => e = .returned (.int .i64 vb) ∧ w' = W) := Lib.hid (fun W q => by rw [hvb]; exact at_ok w.heap.size A c xs 6 2 6 2 rfl rfl W q.box (hr.later q.bel) ho (by omega) (by omega) (by omega))
  have HA4 : Hid (∀ W, Dq w W (.slice A xs.length c) → Calls Try.prog 26 #[.int .i64 8, .int .i64 2, .pointer (some ⟨w.heap.size, 0, none⟩)] W fun e w' => e = .returned (.int .i64 vs) ∧ w' = W) := Lib.hid (fun W q => by rw [hvs]; exact at_ok w.heap.size A c xs 8 2 8 2 rfl rfl W q.box (hr.later q.bel) ho (by omega) (by omega) (by omega))
  have HA5 : Hid (∀ W, Dq w W (.slice A xs.length c) → Calls Try.prog 26 #[.int .i64 10, .int .i64 2, .pointer (some ⟨w.heap.size, 0, none⟩)] W fun e w' => e = .returned (.int .i64 vt) ∧ w' = W) := Lib.hid (fun W q => by rw [hvt]; exact at_ok w.heap.size A c xs 10 2 10 2 rfl rfl W q.box (hr.later q.bel) ho (by omega) (by omega) (by omega))
  have HA6 : Hid (∀ W, Dq w W (.slice A xs.length c) → Calls Try.prog 26 #[.int .i64 12, .int .i64 2, .pointer (some ⟨w.heap.size, 0, none⟩)] W fun e w' => e = .returned (.int .i64 vn) ∧ w' = W) := Lib.hid (fun W q => by rw [hvn]; exact at_ok w.heap.size A c xs 12 2 12 2 rfl rfl W q.box (hr.later q.bel) ho (by omega) (by omega) (by omega))
  have HA7 : Hid (∀ W, Dq w W (.slice A xs.length c) → Calls Try.prog 26 #[.int .i64 14, .int .i64 4, .pointer (some ⟨w.heap.size, 0, none⟩)] W fun e w' => e = .returned (.int .i64 vl) ∧ w' = W) := Lib.hid (fun W q => by rw [hvl]; exact at_ok w.heap.size A c xs 14 4 14 4 rfl rfl W q.box (hr.later q.bel) ho (by omega) (by omega) (by omega))
  have hlab : labS xs = ⟨vm, vb, vs, vt, vn, vl⟩ := by
    unfold labS
    rw [hvm, hvb, hvs, hvt, hvn, hvl]
  obtain ⟨ac, hac⟩ : ∃ ac, ac = ((mk == 827540562) && mayB ⟨vm, vb, vs, vt, vn, vl⟩ && decide ((kk : Int) < vm) && decide ((vb : Int) = (xs.length : Int))) := ⟨_, rfl⟩
  have hgood : goodS xs = (ac && zeros (xs.drop 22)) := by
    unfold goodS
    rw [hlab, ← hkk, ← hmk, hac]
  have hfs : gLab xs = (if (ac && zeros (xs.drop 22)) = true then lbv ⟨vm, vb, vs, vt, vn, vl⟩ kk else z7) ∧ gCode xs = (if (ac && zeros (xs.drop 22)) = true then 0 else 4) := by
    unfold gLab gCode
    rw [hgood, hlab, ← hkk]
    exact ⟨rfl, rfl⟩
  have HFS := Lib.hid hfs
  have HAC := Lib.hid hac
  clear hr ho hyl hzl hyo hys hzs hse hseal heq hs hq0 hmk hkk hvm hvb hvs hvt hvn hvl hlab hgood hfs hac
  go_enter Try.func14, Try.ntmps14
  go_wp2
  generalize (w.alloc (.cells #[.slice A xs.length c] 31)).alloc (.cells #[.int .i64 0, .int .i64 0, .int .i64 0, .int .i64 0, .int .i64 0, .int .i64 0, .int .i64 0] 29) = W0 at HQ0 c0 ⊢
  go_region_held3 (fun w' => w'.cell? ⟨w.heap.size, 0, none⟩ = some (.slice A xs.length c))
    (first | assumption | go_keep)
    (first
      | (go_at_call 13; (with_reducible refine (HSEAL.out _ (HRW.out.later HQ0.out.dr.bel)).mono ?_); rintro e w1 ⟨r1, rfl, hown1, hb1⟩; obtain ⟨A1, c1, rfl, hr1, -, -⟩ := own_formc hown1; have HQ1 := Lib.hid (HQ0.out.dr.later hb1); have HR1 := Lib.hid hr1; clear hown1 hb1 hr1; have c1d := HQ1.out.box.cells1)
      | (go_at_call 9; (with_reducible refine (HEQ.out _ _ _ (HRW.out.later HQ1.out.bel) HR1.out).mono ?_); rintro e w2 ⟨rfl, n2, hw2⟩; subst w2; have HQ2 := Lib.hid (HQ1.out.later (below_drewN (Below.refl _ _) n2)); have c2d := HQ2.out.box.cells1)
      | fail "no arm")
  by_cases hsl : Sealed22 xs
  · have hd : decide (zs = sealL ys) = true := decide_eq_true (HSE.out.2 hsl)
    have HSL := Lib.hid hsl
    clear hsl
    rw [hd]
    clear hd
    generalize World.drewN w1 n2 = W2 at HQ2 c2d ⊢
    clear HQ1 HR1 HQ0 c0 c1d
    go_upto_region 7 with (first
      | (go_at_call 26; (with_reducible refine (HA1.out _ HQ2.out).mono ?_); rintro e w3 ⟨rfl, hw3⟩; subst w3)
      | (go_at_call 26; (with_reducible refine (HA2.out _ HQ2.out).mono ?_); rintro e w3 ⟨rfl, hw3⟩; subst w3)
      | (go_at_call 26; (with_reducible refine (HA3.out _ HQ2.out).mono ?_); rintro e w3 ⟨rfl, hw3⟩; subst w3)
      | (go_at_call 26; (with_reducible refine (HA4.out _ HQ2.out).mono ?_); rintro e w3 ⟨rfl, hw3⟩; subst w3)
      | (go_at_call 26; (with_reducible refine (HA5.out _ HQ2.out).mono ?_); rintro e w3 ⟨rfl, hw3⟩; subst w3)
      | (go_at_call 26; (with_reducible refine (HA6.out _ HQ2.out).mono ?_); rintro e w3 ⟨rfl, hw3⟩; subst w3)
      | (go_at_call 26; (with_reducible refine (HA7.out _ HQ2.out).mono ?_); rintro e w3 ⟨rfl, hw3⟩; subst w3)
      | fail "no")
    have hy : Dy w (W2.alloc (.cells #[.int .i64 vm, .int .i64 vb, .int .i64 vs, .int .i64 vt, .int .i64 vn, .int .i64 vl, .int .i64 kk] 29)) W2.heap.size #[.int .i64 vm, .int .i64 vb, .int .i64 vs, .int .i64 vt, .int .i64 vn, .int .i64 vl, .int .i64 kk] (.slice A xs.length c) :=
      ⟨HQ2.out.later ((Below.refl _ _).alloc (Nat.le_refl _) _), Blk.new _ _ _, HQ2.out.res.lt⟩
    have HY := Lib.hid hy
    obtain ⟨X, hX⟩ : ∃ X, X = W2.heap.size := ⟨_, rfl⟩
    rw [← hX] at HY ⊢
    generalize W2.alloc (.cells #[.int .i64 vm, .int .i64 vb, .int .i64 vs, .int .i64 vt, .int .i64 vn, .int .i64 vl, .int .i64 kk] 29) = W3 at HY ⊢
    clear hy hX HQ2 c2d HA1 HA2 HA3 HA4 HA5 HA6 HA7 bmk bkk bvm bvb bvs bvt bvn bvl
    go_cut [6] (fun ok wx => ok = .bool ac ∧ Dy w wx X #[.int .i64 vm, .int .i64 vb, .int .i64 vs, .int .i64 vt, .int .i64 vn, .int .i64 vl, .int .i64 kk] (.slice A xs.length c))
    case first =>
      obtain ⟨y0, y1, y2, y3, y4, y5, y6⟩ := HY.out.lab.cells7
      have yb := HY.out.dq.box.cells1
      by_cases h1 : mk = 827540562
      · have e1 : ((mk : Int) == 827540562) = true := by simp; omega
        rcases h2 : mayB ⟨vm, vb, vs, vt, vn, vl⟩ with _ | _
        · obtain rfl : ac = false := by rw [HAC.out, h2]; simp
          clear h1 HAC
          go_wp2_with (first | (go_at_call 26; (with_reducible refine (HA0.out _ HY.out.dq).mono ?_); rintro e w3 ⟨rfl, hw3⟩; subst w3) | (go_at_call 27; (with_reducible refine (mayE _ _ _ _ _ _ _ h2 _).mono ?_); rintro e w11 ⟨rfl, hb11⟩; have HY11 := Lib.hid (HY.out.later hb11); clear hb11; obtain ⟨x0, x1, x2, x3, x4, x5, x6⟩ := HY11.out.lab.cells7; have xb := HY11.out.dq.box.cells1) | fail "no")
          go_meet
          exact ⟨rfl, HY11.out⟩
        · by_cases h3 : (kk : Int) < vm
          · by_cases h4 : (vb : Int) = (xs.length : Int)
            · have e4 : ((vb : Int) == (xs.length : Int)) = true := by simp; omega
              have e4n : (vb == xs.length) = true := by simp; omega
              have e3n : decide (kk < vm) = true := by simp; omega
              have e3 : decide ((kk : Int) < vm) = true := by simp; omega
              obtain rfl : ac = true := by rw [HAC.out, h2, e3, h1]; simp; omega
              clear h1 HAC h3 h4
              go_wp2_with (first | (go_at_call 26; (with_reducible refine (HA0.out _ HY.out.dq).mono ?_); rintro e w3 ⟨rfl, hw3⟩; subst w3) | (go_at_call 27; (with_reducible refine (mayE _ _ _ _ _ _ _ h2 _).mono ?_); rintro e w11 ⟨rfl, hb11⟩; have HY11 := Lib.hid (HY.out.later hb11); clear hb11; obtain ⟨x0, x1, x2, x3, x4, x5, x6⟩ := HY11.out.lab.cells7; have xb := HY11.out.dq.box.cells1) | fail "no")
              go_meet
              exact ⟨rfl, HY11.out⟩
            · have e4 : ((vb : Int) == (xs.length : Int)) = false := by simp; omega
              have e4n : (vb == xs.length) = false := by simp; omega
              have e3n : decide (kk < vm) = true := by simp; omega
              have e3 : decide ((kk : Int) < vm) = true := by simp; omega
              obtain rfl : ac = false := by rw [HAC.out, decide_eq_false h4]; simp
              clear h1 HAC h3 h4
              go_wp2_with (first | (go_at_call 26; (with_reducible refine (HA0.out _ HY.out.dq).mono ?_); rintro e w3 ⟨rfl, hw3⟩; subst w3) | (go_at_call 27; (with_reducible refine (mayE _ _ _ _ _ _ _ h2 _).mono ?_); rintro e w11 ⟨rfl, hb11⟩; have HY11 := Lib.hid (HY.out.later hb11); clear hb11; obtain ⟨x0, x1, x2, x3, x4, x5, x6⟩ := HY11.out.lab.cells7; have xb := HY11.out.dq.box.cells1) | fail "no")
              go_meet
              exact ⟨rfl, HY11.out⟩
          · have e3n : decide (kk < vm) = false := by simp; omega
            have e3 : decide ((kk : Int) < vm) = false := by simp; omega
            obtain rfl : ac = false := by rw [HAC.out, e3]; simp
            clear h1 HAC h3
            go_wp2_with (first | (go_at_call 26; (with_reducible refine (HA0.out _ HY.out.dq).mono ?_); rintro e w3 ⟨rfl, hw3⟩; subst w3) | (go_at_call 27; (with_reducible refine (mayE _ _ _ _ _ _ _ h2 _).mono ?_); rintro e w11 ⟨rfl, hb11⟩; have HY11 := Lib.hid (HY.out.later hb11); clear hb11; obtain ⟨x0, x1, x2, x3, x4, x5, x6⟩ := HY11.out.lab.cells7; have xb := HY11.out.dq.box.cells1) | fail "no")
            go_meet
            exact ⟨rfl, HY11.out⟩
      · have e1 : ((mk : Int) == 827540562) = false := by simp; omega
        have e1n : (mk == 827540562) = false := by simp; omega
        obtain rfl : ac = false := by rw [HAC.out, e1n]; simp
        clear h1 HAC
        go_wp2_with (first | (go_at_call 26; (with_reducible refine (HA0.out _ HY.out.dq).mono ?_); rintro e w3 ⟨rfl, hw3⟩; subst w3) | fail "no")
        go_meet
        exact ⟨rfl, HY.out⟩
    case rest =>
      obtain ⟨rfl, hD⟩ := hcut
      have HD := Lib.hid hD
      clear HY hD HA0 HAC
      obtain ⟨rl, hrl⟩ : ∃ rl, rl = xs.drop 22 := ⟨_, rfl⟩
      have hrll : rl.length = xs.length - 22 := by rw [hrl, List.length_drop]
      obtain ⟨A2, hA2⟩ : ∃ A2, A2 = (if c = 22 then A else A.map (·.add (22 * 1))) := ⟨_, rfl⟩
      have hlx : 22 ≤ xs.length := HXL.out
      have hcut2 := fun W => cut_hi_ 31 1 Try.underlying31 (fun _ => by kernel_rfl) A xs.length c 22 22 rfl hlx W
      rw [← hA2, ← hrll] at hcut2
      have hR2 : Rd w A2 (byv rl) := by
        have := HRW.out.cutg (size := 1) (c := c) (n := 22) (len := xs.length) (by simp [byv_len]) hc
        rw [← hA2, Nat.mul_one, ← byv_drop, ← hrl] at this
        exact this
      have HR2 := Lib.hid hR2
      rw [← hrl] at HFS
      have hrb : (rl.length : Int) ≤ 100000 := by omega
      have xb := HD.out.dq.box.cells1
      have HDC : Hid (dLab xs = gLab xs ∧ dCode xs = gCode xs) := Lib.hid (by unfold dLab dCode; rw [if_pos ⟨hlx, HSL.out⟩, if_pos hlx, if_pos HSL.out]; exact ⟨rfl, rfl⟩)
      clear hrll hR2 hA2 hrl hlx
      go_wp2
      go_loopw [6, 8, 65] (fun ok _ i wi => ∃ j : Nat, j ≤ rl.length ∧ i = .int .i64 j ∧ ok = .bool (ac && zeros (rl.take j)) ∧ Dy w wi X #[.int .i64 vm, .int .i64 vb, .int .i64 vs, .int .i64 vt, .int .i64 vn, .int .i64 vl, .int .i64 kk] (.slice A xs.length c)) (fun _ _ i _ => rl.length - (intOf i).toNat)
      case atStart => exact ⟨0, by omega, rfl, by simp [zeros], HD.out⟩
      case round =>
        obtain ⟨j, hj, rfl, rfl, hD⟩ := hrel
        have HD := Lib.hid hD
        by_cases hjl : j < rl.length
        · obtain ⟨x, hx1⟩ : ∃ x, rl[j]? = some x := ⟨_, List.getElem?_eq_getElem hjl⟩
          obtain ⟨ad, rfl, hcx⟩ := (HR2.out.later hD.dq.bel) j (.int .u8 x) (by simp [byv, hx1])
          have hz : zeros (rl.take (j + 1)) = (zeros (rl.take j) && (x == 0)) := by rw [take_snoc_pk hx1]; simp [zeros]
          have HZ := Lib.hid hz
          have g1 : (j : Int) < rl.length := by omega
          obtain ⟨a2, ha2⟩ : ∃ a2, a2 = (ac && zeros (rl.take j)) := ⟨_, rfl⟩
          rw [← ha2]
          have HA2 := Lib.hid ha2
          clear hx1 hz ha2 hD
          rcases a2 with _ | _
          all_goals
            go_wp2
            go_roundw
            case rel => exact ⟨j + 1, by omega, by go_num, by rw [HZ.out, ← Bool.and_assoc, ← HA2.out]; rfl, HD.out⟩
            case measure => simp [intOf]; omega
        · obtain rfl : j = rl.length := by omega
          rw [List.take_length]
          rcases hg : (ac && zeros rl) with _ | _
          all_goals
            rw [hg] at HFS
            obtain ⟨r0, r1, r2, r3, r4, r5, r6⟩ := hD.dq.res.cells7
            have fz := fun i => hD.dq.res.frozen i
            clear hg hD
          · go_wp2
            obtain ⟨_, rfl, hz, hbz⟩ := HD.out.dq.done (.int .i64 0) (.int .i64 0) (.int .i64 0) (.int .i64 0) (.int .i64 0) (.int .i64 0) (.int .i64 0)
            refine read_end _ _ hz rfl rfl ⟨?_, hbz⟩
            rw [HDC.out.1, HDC.out.2, HFS.out.1, HFS.out.2]
            rfl
          · obtain ⟨x0, x1, x2, x3, x4, x5, x6⟩ := HD.out.lab.cells7
            have hne : X ≠ w.heap.size + 1 := by have := HD.out.far; omega
            go_wp2
            obtain ⟨_, rfl, hz, hbz⟩ := HD.out.dq.done (.int .i64 vm) (.int .i64 vb) (.int .i64 vs) (.int .i64 vt) (.int .i64 vn) (.int .i64 vl) (.int .i64 kk)
            refine read_end _ _ hz rfl rfl ⟨?_, hbz⟩
            rw [HDC.out.1, HDC.out.2, HFS.out.1, HFS.out.2]
            rfl
  · have hd : decide (zs = sealL ys) = false := decide_eq_false (fun e => hsl (HSE.out.1 e))
    have HDC : Hid (dLab xs = z7 ∧ dCode xs = 5) := Lib.hid (by unfold dLab dCode; rw [if_neg (fun e => hsl e.2), if_pos HXL.out, if_neg hsl]; exact ⟨rfl, rfl⟩)
    clear hsl
    rw [hd]
    clear hd
    generalize World.drewN w1 n2 = W2 at HQ2 c2d ⊢
    obtain ⟨r0, r1, r2, r3, r4, r5, r6⟩ := HQ2.out.res.cells7
    have fz := fun i => HQ2.out.res.frozen i
    clear HQ1 HR1 HQ0 c0 c1d HA0 HA1 HA2 HA3 HA4 HA5 HA6 HA7
    go_wp2
    obtain ⟨_, rfl, hz, hbz⟩ := HQ2.out.done (.int .i64 0) (.int .i64 0) (.int .i64 0) (.int .i64 0) (.int .i64 0) (.int .i64 0) (.int .i64 0)
    refine read_end _ _ hz rfl rfl ⟨?_, hbz⟩
    rw [HDC.out.1, HDC.out.2]
    rfl
theorem reads_ok (A : Option Addr) (c : Nat) (xs : List Int) (w : World) (hr : Rd w A (byv xs)) (hx : xs.length ≤ 100000) (hc : xs.length ≤ c) (ho : Oct xs) :
    Calls Try.prog 14 #[.slice A xs.length c] w fun e w' => e = .returned (.tuple #[.agg (dLab xs), .int .i64 (dCode xs)]) ∧ Below w.heap.size w w' := by
  by_cases h : 22 ≤ xs.length
  · exact reads_rest A c xs w hr hx hc ho h
  · unfold dLab dCode
    rw [if_neg (fun e => h e.1), if_neg h]
    exact reads_size A xs.length c w (by omega)
end Go.Proofs.Ytcgodkahkgpojaa
