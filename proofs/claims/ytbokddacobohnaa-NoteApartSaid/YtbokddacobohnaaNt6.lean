/- The walk of the law's Reads. No further condition. -/
import Derived.Test.YtbokddacobohnaaNt5
namespace Go.Proofs.Ytbokddacobohnaa
open Go.RowKit
attribute [local go_sem ↓] Go.wp_at_zero Go.wp_at_succ

theorem nf_zero (xs : List Int) (i : Nat) : nf xs i 0 = 0 := by simp [nf, num]
theorem nf_cons {xs : List Int} (ho : Oct xs) {i n : Nat} {x : Int} (hx : xs[i]? = some x) (h8 : n + 1 ≤ 8) : (nf xs i (n + 1) : Int) = x + 256 * (nf xs (i + 1) n : Int) := by
  rw [← nf_cast' ho i h8, ← nf_cast' ho (i + 1) (by omega)]
  obtain ⟨hi, rfl⟩ := List.getElem?_eq_some_iff.1 hx
  rw [List.drop_eq_getElem_cons hi, List.take_succ_cons]
  rfl
set_option maxHeartbeats 3200000 in
theorem at_ok (g : Nat) (A : Option Addr) (c : Nat) (xs : List Int) (i size : Nat) (z y : Int) (hz : z = i) (hy : y = size) (w : World) (hb : Blk w g 31 #[.slice A xs.length c]) (hr : Rd w A (byv xs)) (ho : Oct xs) (hx : xs.length ≤ 1000000) (h : i + size ≤ xs.length) (h8 : size ≤ 8) :
    Calls Try.prog 27 #[.int .i64 z, .int .i64 y, .pointer (some ⟨g, 0, none⟩)] w fun e w' => e = .returned (.int .u64 (nf xs i size)) ∧ w' = w := by
  subst hz hy
  have hc := hb.cells1
  have HR := Lib.hid hr
  have HO := Lib.hid ho
  have hil : (i : Int) ≤ 1000000 := by omega
  have hsl : (size : Int) ≤ 8 := by omega
  clear hb hr ho
  go_enter Try.func27, Try.ntmps27
  go_wp2
  go_loopw [6, 7] (fun n k wr => wr = w ∧ ∃ j : Nat, j ≤ size ∧ k = .int .i64 ((j : Int) - 1) ∧ n = .int .u64 (nf xs (i + j) (size - j))) (fun _ k _ => (intOf k + 1).toNat)
  case atStart => exact ⟨rfl, size, Nat.le_refl _, rfl, by rw [Nat.sub_self, nf_zero]; rfl⟩
  case round =>
    obtain ⟨rfl, j, hj, rfl, rfl⟩ := hrel
    rcases j with _ | j
    · have hd : decide ((0 : Int) ≤ ((0 : Nat) : Int) - 1) = false := by decide
      go_wp2
      go_ret
      exact ⟨by simp, rfl⟩
    · obtain ⟨x, hx1⟩ : ∃ x, xs[i + j]? = some x := ⟨_, List.getElem?_eq_getElem (by omega)⟩
      obtain ⟨ad, rfl, hcx⟩ := HR.out (i + j) (.int .u8 x) (by simp [byv, hx1])
      have hxo := HO.out x (List.mem_of_getElem? hx1)
      have hn := nf_cons HO.out hx1 (n := size - (j + 1)) (by omega)
      rw [show size - (j + 1) + 1 = size - j by omega, show i + j + 1 = i + (j + 1) by omega] at hn
      have hlt := nf_lt HO.out (i + (j + 1)) (n := size - (j + 1)) (by omega)
      have hp : (256 : Nat) ^ (size - (j + 1)) ≤ 256 ^ 7 := Nat.pow_le_pow_right (by decide) (by omega)
      obtain ⟨n, hnn⟩ : ∃ n, n = nf xs (i + (j + 1)) (size - (j + 1)) := ⟨_, rfl⟩
      rw [← hnn] at hn hlt ⊢
      have hn7 : n < 72057594037927936 := Nat.lt_of_lt_of_le hlt hp
      have HN := Lib.hid hn
      obtain ⟨hx0, hx2⟩ := hxo
      have e0 : ((j + 1 : Nat) : Int) - 1 = (j : Int) := by omega
      have w1 : IntKind.u64.wrap ((n : Int) * 256) = n * 256 := by rw [IntKind.wrap_u64]; omega
      have w2 : IntKind.u64.wrap x = x := by rw [IntKind.wrap_u64]; omega
      have w3 : IntKind.u64.wrap ((n : Int) * 256 + x) = n * 256 + x := by rw [IntKind.wrap_u64]; omega
      have hjl : (j : Int) ≤ 8 := by omega
      have hij : (i : Int) + j < xs.length := by omega
      have hnat : ((i : Int) + j).toNat = i + j := by omega
      rw [e0]
      clear hx1 hlt hp hnn hn e0
      go_wp2
      go_roundw
      case rel => exact ⟨trivial, j, by omega, rfl, by rw [HN.out, Int.add_comm x, Int.mul_comm 256]⟩
      case measure => simp [intOf]
/-- While the law reads a note: the box of the bytes, the result's block, the note, its row. -/
structure Dr (w0 w : World) (R X g : Nat) (seq next : Int) (v : Value) (xs : List En) (bx : Value) : Prop where
  nb : Nb w0 w R X seq next v xs
  box : Blk w g 31 #[bx]
section
variable {w0 w w' W : World} {R X g : Nat} {seq next : Int} {v v2 bx : Value} {xs : List En}
theorem Dr.later (k : Dr w0 w R X g seq next v xs bx) (h : Below w.heap.size w w') : Dr w0 w' R X g seq next v xs bx := ⟨k.nb.later h, k.box.later h⟩
theorem Dr.push (k : Dr w0 w R X g seq next v xs bx) (h : Below w.heap.size w W) (hg : W.grownBy w' v.ownBlock) (e : En) (ho : w'.ownsRow w0.heap.size 48 2 v2 (xs.length + 1) (ens xs ++ env e)) :
    Dr w0 (w'.setCell ⟨X, 2, none⟩ v2) R X g seq next v2 (xs ++ [e]) bx := by
  have k' := k.later h
  have n1 : v.ownBlock ≠ some g := own_blk_ne k'.nb.row k'.box (by decide)
  have n2 : g ≠ X := Blk.ne_ k'.box k'.nb.nt (by decide)
  exact ⟨k.nb.push h hg e ho, (k'.box.grown hg (fun e => n1 e.symm)).far n2 v2⟩
end
theorem read_end {Q : Ending → World → Prop} (t : Array Value) (W : World) {R : Nat} {a b d : Value} (hb : Blk W R 28 #[a, b, d]) {code : Int} (h4 : t.getD 4 undef = .pointer (some ⟨R, 0, none⟩)) (h5 : t.getD 5 undef = .int .i64 code)
    (hQ : Q (.returned (.tuple #[.agg #[a, b, d], .int .i64 code])) W) : bodyPost Try.prog Try.f15 Q Exit.ret ⟨t, []⟩ W :=
  bodyPost_ret (results_cell2_row (fn := Try.f15) (p := 4) (u := 5) (ty := 28) (by kernel_rfl) _ h4 hb Try.underlying28 rfl (by kernel_rfl)) rfl (by rw [h5]; exact hQ)
set_option maxRecDepth 100000 in
set_option maxHeartbeats 3200000 in
theorem reads_size (A : Option Addr) (n c : Nat) (slots : Int) (w : World) (hn : n ≤ 100000) (hs : slots < 0 ∨ (n : Int) < 15 + 5 * slots) :
    Calls Try.prog 15 #[.slice A n c, .int .i64 slots] w fun e w' => NtRes w' e 0 0 [] 6 ∧ Below w.heap.size w w' := by
  have hb0 := Blk.new w 31 #[.slice A n c]
  have hbl := (Below.refl w.heap.size w).alloc (Nat.le_refl _) (.cells #[.slice A n c] 31)
  have HN := Lib.hid (Blk.new_ (w.alloc (.cells #[.slice A n c] 31)) 28 #[.int .u64 0, .int .i64 0, .slice none 0 0] (n := w.heap.size + 1) (by simp))
  have HB := Lib.hid (hbl.alloc (by simp) (.cells #[.int .u64 0, .int .i64 0, .slice none 0 0] 28))
  have c0 := (hb0.alloc (.cells #[.int .u64 0, .int .i64 0, .slice none 0 0] 28)).cells1
  clear hb0 hbl
  go_enter Try.func15, Try.ntmps15
  by_cases h1 : slots < 0
  · have d1 : decide (slots < 0) = true := by simpa using h1
    clear hs
    go_wp2
    exact read_end _ _ HN.out rfl rfl ⟨ntRes_zero _ 6, HB.out⟩
  · have d1 : decide (slots < 0) = false := by simpa using h1
    by_cases h2 : (n : Int) < slots
    · have d2 : decide ((n : Int) < slots) = true := by simpa using h2
      clear hs
      go_wp2
      exact read_end _ _ HN.out rfl rfl ⟨ntRes_zero _ 6, HB.out⟩
    · have d2 : decide ((n : Int) < slots) = false := by simpa using h2
      have h3 : (n : Int) < 15 + 5 * slots := by omega
      have d3 : decide ((n : Int) < 15 + 5 * slots) = true := by simpa using h3
      clear hs
      go_wp2
      exact read_end _ _ HN.out rfl rfl ⟨ntRes_zero _ 6, HB.out⟩
set_option maxRecDepth 100000 in
set_option maxHeartbeats 12800000 in
theorem reads_rest (A : Option Addr) (c : Nat) (xs : List Int) (s : Nat) (w : World) (hr : Rd w A (byv xs)) (hx : xs.length ≤ 100000) (hc : xs.length ≤ c) (ho : Oct xs) (hs : 15 + 5 * s ≤ xs.length) :
    Calls Try.prog 15 #[.slice A xs.length c, .int .i64 s] w fun e w' => NtRes w' e (dSeq xs s) (dNext xs s) (dEnts xs s) (dCode xs s) ∧ Below w.heap.size w w' := by
  obtain ⟨i0, hi0, hz0, hz1, hz2⟩ := info_parts (show (Try.prog.info? 48).map (fun i => (i.zero, i.size, i.bytes)) = some (some (.agg #[.int .i64 0, .int .i64 0]), 2, 16) by kernel_rfl)
  have hmf : ∀ (W : World) (vs : Array Value), (Instr.makeFunc (.func 27) #[] vs).run Try.prog W = .ok (.func (.func 27) #[] vs) W := fun _ _ => rfl
  obtain ⟨ys, hys⟩ : ∃ ys, ys = xs.take (11 + 5 * s) := ⟨_, rfl⟩
  obtain ⟨zs, hzs⟩ : ∃ zs, zs = xs.take (15 + 5 * s) := ⟨_, rfl⟩
  have hyl : ys.length = 11 + 5 * s := by rw [hys, List.length_take]; omega
  have hzl : zs.length = 15 + 5 * s := by rw [hzs, List.length_take]; omega
  have hyo : Oct ys := by rw [hys]; exact ho.take _
  have hb0 := Blk.new w 31 #[.slice A xs.length c]
  have hbl := (Below.refl w.heap.size w).alloc (Nat.le_refl _) (.cells #[.slice A xs.length c] 31)
  have HN := Lib.hid (Blk.new_ (w.alloc (.cells #[.slice A xs.length c] 31)) 28 #[.int .u64 0, .int .i64 0, .slice none 0 0] (n := w.heap.size + 1) (by simp))
  have hB := hbl.alloc (by simp) (.cells #[.int .u64 0, .int .i64 0, .slice none 0 0] 28)
  have hbx := hb0.alloc (.cells #[.int .u64 0, .int .i64 0, .slice none 0 0] 28)
  have HB := Lib.hid hB
  have HBX := Lib.hid hbx
  have c0 := hbx.cells1
  have HXO := Lib.hid ho
  obtain ⟨x0, hx0⟩ : ∃ x0, xs[0]? = some x0 := ⟨_, List.getElem?_eq_getElem (by omega)⟩
  have hcell0 : ∀ W, Rd W A (byv xs) → ∃ ad, A = some ad ∧ W.cell? ad = some (.int .u8 x0) := fun W hW => by
    obtain ⟨ad, e, h⟩ := hW 0 (.int .u8 x0) (by simp [byv, hx0])
    exact ⟨ad, e, by simpa [Addr.add] using h⟩
  have HC0 := Lib.hid hcell0
  obtain ⟨ad, rfl, -⟩ := hcell0 w hr
  have hm0 : (x0 == 78) = (nf xs 0 1 == 78) := by
    have h1 := nf_cons ho hx0 (n := 0) (by decide)
    rw [nf_zero] at h1
    generalize nf xs (0 : Nat) (0 + 1) = q at h1 ⊢
    have : x0 = (q : Int) := by omega
    subst this
    by_cases hq : q = 78
    · simp [hq]
    · rw [beq_eq_false_iff_ne.2 hq, beq_eq_false_iff_ne]; omega
  have HM0 := Lib.hid hm0
  clear hm0 hcell0
  obtain ⟨L, hL⟩ : ∃ L, L = 15 + 5 * s := ⟨_, rfl⟩
  obtain ⟨M, hM⟩ : ∃ M, M = 11 + 5 * s := ⟨_, rfl⟩
  have hLe : (15 : Int) + 5 * (s : Int) = L := by omega
  have hcut := fun W => cut_lo_ 31 1 Try.underlying31 (fun _ => by kernel_rfl) (some ad) xs.length c L (L : Int) rfl (by omega) W
  have hcut4 := fun W => cut_lo_ 31 1 Try.underlying31 (fun _ => by kernel_rfl) (some ad) xs.length c M (M : Int) rfl (by omega) W
  have hLM : (L : Int) - 4 = M := by omega
  have hLM2 : IntKind.i64.wrap ((L : Int) - 4) = M := by rw [hLM]; exact IntWalk.i64_in _ (by omega)
  have hLM3 : IntKind.i64.wrap (M : Int) = M := IntWalk.i64_in _ (by omega)
  have d1 : decide ((s : Int) < 0) = false := by simp
  have d2 : decide ((xs.length : Int) < (s : Int)) = false := by simp; omega
  have d3 : decide ((xs.length : Int) < (L : Int)) = false := by simp; omega
  have d2n : decide (xs.length < s) = false := by simp; omega
  have d3n : decide (xs.length < L) = false := by simp; omega
  have hs1 : (s : Int) ≤ 100000 := by omega
  have hL1 : (L : Int) ≤ 100000 := by omega
  have hRA2 := hr.later hB
  have HRA := Lib.hid hRA2
  have HRW := Lib.hid hr
  have hse : (zs = sealL ys) ↔ isSeal xs s := by rw [hzs, hys]; exact Iff.rfl
  have HSE := Lib.hid hse
  have hseal := fun W (hW : Rd W (some ad) (byv xs)) => sealed_ok (some ad) c ys W (by rw [hys, byv_take]; exact hW.take _) (by omega) hyo
  rw [hyl, ← hM] at hseal
  have HSEAL := Lib.hid hseal
  have heq := fun W B d (hW : Rd W (some ad) (byv xs)) (hB : Rd W B (byv (sealL ys))) => equalb_ok (some ad) B c d zs (sealL ys) W (by rw [hzs, byv_take]; exact hW.take _) hB (by omega)
  rw [hzl, ← hL] at heq
  have HEQ := Lib.hid heq
  have HXC := Lib.hid hc
  have HSX := Lib.hid hs
  have HLL := Lib.hid hL
  clear hr ho hB hbl hb0 hbx hyl hzl hyo hys hzs hse hseal heq hL hM hRA2 hs hx0
  go_enter Try.func15, Try.ntmps15
  go_wp2
  generalize (w.alloc (.cells #[.slice (some ad) xs.length c] 31)).alloc (.cells #[.int .u64 0, .int .i64 0, .slice none 0 0] 28) = W0 at HN HB HBX HRA c0 ⊢
  have c0d : W0.drew.cell? ⟨w.heap.size, 0, none⟩ = some (.slice (some ad) xs.length c) := c0
  have HRD : Hid (Rd W0.drew (some ad) (byv xs)) := Lib.hid (HRA.out.later (below_drewN (Below.refl _ _) 1))
  go_region_held3 (fun w' => w'.cell? ⟨w.heap.size, 0, none⟩ = some (.slice (some ad) xs.length c))
    (first | assumption | go_keep)
    (first
      | (go_at_call 14; (with_reducible refine (HSEAL.out _ HRD.out).mono ?_); rintro e w1 ⟨r1, rfl, hown1, hb1⟩; obtain ⟨A1, c1, rfl, hr1, -, -⟩ := own_formc hown1; have HB1 := Lib.hid ((HB.out.trans ((below_drewN (Below.refl _ _) 1).mono HB.out.size)).trans (hb1.mono HB.out.size)); have HR1 := Lib.hid hr1; have HRA1 := Lib.hid (HRD.out.later hb1); have HBX1 := Lib.hid ((HBX.out.later (below_drewN (Below.refl _ _) 1)).later hb1); have HN1 := Lib.hid ((HN.out.later (below_drewN (Below.refl _ _) 1)).later hb1); clear hown1 hb1 hr1; have c1d := HBX1.out.cells1)
      | (go_at_call 9; (with_reducible refine (HEQ.out _ _ _ HRA1.out HR1.out).mono ?_); rintro e w2 ⟨rfl, n2, hw2⟩; subst w2; have HB2 := Lib.hid (below_drewN HB1.out n2); have HRA2 := Lib.hid (HRA1.out.later (below_drewN (Below.refl _ _) n2)); have HBX2 := Lib.hid (HBX1.out.later (below_drewN (Below.refl _ _) n2)); have HN2 := Lib.hid (HN1.out.later (below_drewN (Below.refl _ _) n2)); have c2d := HBX2.out.cells1))
  by_cases hsl : isSeal xs s
  · have hd : decide (zs = sealL ys) = true := decide_eq_true (HSE.out.2 hsl)
    have HSL := Lib.hid hsl
    clear hsl
    rw [hd]
    clear hd
    go_upto_region 7 with fail
    generalize World.drewN w1 n2 = W2 at HB2 HRA2 HBX2 HN2 c2d ⊢
    clear HB1 HRA1 HBX1 HN1 HR1 HRD HN HB HBX HRA c0 c0d c1d
    have hbd := below_drewN (Below.refl W2.heap.size W2) 1
    have HBXd : Hid (Blk W2.drew w.heap.size 31 #[.slice (some ad) xs.length c]) := Lib.hid (HBX2.out.later hbd)
    have HRAd : Hid (Rd W2.drew (some ad) (byv xs)) := Lib.hid (HRA2.out.later hbd)
    have hca : W2.drew.cell? ad = some (.int .u8 x0) := by
      obtain ⟨_, e, h⟩ := HC0.out _ HRAd.out
      cases e
      exact h
    have hba : W2.drew.cell? ⟨w.heap.size, 0, none⟩ = some (.slice (some ad) xs.length c) := HBXd.out.cells1
    have hca2 : ∀ o, (W2.alloc o).drew.cell? ad = some (.int .u8 x0) := fun o => by
      obtain ⟨_, e, h⟩ := HC0.out _ ((HRA2.out.alloc o).later (below_drewN (Below.refl _ _) 1))
      cases e
      exact h
    clear hbd
    have hx1 : (0 : Int) < (xs.length : Int) := by have := HSX.out; omega
    have hx2 : 0 < xs.length := by omega
    have b2 := nf_lt HXO.out 9 (n := 2) (by decide)
    obtain ⟨sq, hsq⟩ : ∃ sq, sq = nf xs 1 8 := ⟨_, rfl⟩
    obtain ⟨nx, hnx⟩ : ∃ nx, nx = nf xs 9 2 := ⟨_, rfl⟩
    have hat1 := fun W => fun (q1 : Blk W w.heap.size 31 #[.slice (some ad) xs.length c]) (q2 : Rd W (some ad) (byv xs)) => at_ok w.heap.size (some ad) c xs 1 8 1 8 rfl rfl W q1 q2 HXO.out (by omega) (by have := HSX.out; omega) (by omega)
    have hat2 := fun W => fun (q1 : Blk W w.heap.size 31 #[.slice (some ad) xs.length c]) (q2 : Rd W (some ad) (byv xs)) => at_ok w.heap.size (some ad) c xs 9 2 9 2 rfl rfl W q1 q2 HXO.out (by omega) (by have := HSX.out; omega) (by omega)
    rw [← hsq] at hat1
    rw [← hnx] at hat2 b2
    have ha1 := hat1 W2.drew HBXd.out HRAd.out
    have ha2 := hat2 W2.drew HBXd.out HRAd.out
    have ha3 := fun o => hat1 (W2.alloc o).drew (HBX2.out.alloc o).drew ((HRA2.out.alloc o).later (below_drewN (Below.refl _ _) 1))
    have ha4 := fun o => hat2 (W2.alloc o).drew (HBX2.out.alloc o).drew ((HRA2.out.alloc o).later (below_drewN (Below.refl _ _) 1))
    have HAT1 := Lib.hid ha1
    have HAT2 := Lib.hid ha2
    have HAT3 := Lib.hid ha3
    have HAT4 := Lib.hid ha4
    clear ha1 ha2 ha3 ha4
    have HSQ := Lib.hid hsq
    have HNX := Lib.hid hnx
    have hnb : (nx : Int) < 65536 := by omega
    have wn : IntKind.i64.wrap (nx : Int) = nx := IntWalk.i64_in _ (by omega)
    have wn1 : IntKind.i64.wrap ((nx : Int) - 1) = (nx : Int) - 1 := IntWalk.i64_in _ (by omega)
    clear hsq hnx hat1 hat2 b2
    have hdr : Dr w (W2.alloc (.cells #[.int .u64 sq, .int .i64 ((nx : Int) - 1), .slice none 0 0] 28)).drew (w.heap.size + 1) W2.heap.size w.heap.size sq ((nx : Int) - 1) (.slice none 0 0) [] (.slice (some ad) xs.length c) :=
      ⟨⟨(HN2.out.alloc _).drew, (Blk.new W2 28 _).drew, World.ownsRow_nil _ _ _ _, below_drewN (HB2.out.alloc HB2.out.size _) 1, by have := HN2.out.lt; exact ⟨by omega, HB2.out.size⟩⟩, (HBX2.out.alloc _).drew⟩
    have HDR := Lib.hid hdr
    clear hdr
    obtain ⟨m, hm⟩ : ∃ m, (x0 == 78) = m := ⟨_, rfl⟩
    have HM := Lib.hid hm
    go_cut [8, 9] (fun p o wx => p = .pointer (some ⟨W2.heap.size, 0, none⟩) ∧ o = .bool m ∧ Dr w wx (w.heap.size + 1) W2.heap.size w.heap.size sq ((nx : Int) - 1) (.slice none 0 0) [] (.slice (some ad) xs.length c))
    case first =>
      go_region_held3 (fun w' => w'.cell? ⟨w.heap.size, 0, none⟩ = some (.slice (some ad) xs.length c) ∧ w'.cell? ad = some (.int .u8 x0))
        (first | exact ⟨by assumption, by assumption⟩ | go_keep)
        (first
          | (go_at_call 27; (with_reducible refine HAT1.out.mono ?_); rintro e w3 ⟨rfl, hw3⟩; subst w3)
          | (go_at_call 27; (with_reducible refine HAT2.out.mono ?_); rintro e w3 ⟨rfl, hw3⟩; subst w3)
          | (go_at_call 27; (with_reducible refine (HAT3.out _).mono ?_); rintro e w3 ⟨rfl, hw3⟩; subst w3)
          | (go_at_call 27; (with_reducible refine (HAT4.out _).mono ?_); rintro e w3 ⟨rfl, hw3⟩; subst w3))
      all_goals
        go_wp2_with fail
        go_meet
        exact ⟨rfl, rfl, HDR.out⟩
    case rest =>
      obtain ⟨rfl, rfl, hD⟩ := hcut
      obtain ⟨X, hX⟩ : ∃ X, X = W2.heap.size := ⟨_, rfl⟩
      rw [← hX] at hD ⊢
      have HD5 := Lib.hid hD
      clear hD hX HBXd HRAd hca hba hca2 HAT1 HAT2 HAT3 HAT4 hcut4 hLM hLM2 hLM3 wn wn1 d1 d2 d3 d2n d3n hm c2d HDR HN2 HB2 HBX2 HRA2 HSEAL HEQ hx1
      go_wp2
      go_loopw [9, 10, 11, 58] (fun ok _ _ i wr => ∃ (k c1 : Nat) (A1 : Option Addr), k ≤ s ∧ i = .int .i64 k ∧ ok = .bool (m && (ents xs k).all okE) ∧ Dr w wr (w.heap.size + 1) X w.heap.size sq ((nx : Int) - 1) (.slice A1 k c1) (ents xs k) (.slice (some ad) xs.length c)) (fun _ _ _ i _ => s - (intOf i).toNat)
      case atStart => exact ⟨0, 0, none, by omega, rfl, by simp [ents], HD5.out⟩
      case round =>
        obtain ⟨k, c1', A1', hk, rfl, rfl, hD⟩ := hrel
        have HD := Lib.hid hD
        have hbx1 := hD.box.cells1
        by_cases hlt : k < s
        · have hat5 := at_ok w.heap.size (some ad) c xs (11 + 5 * k) 1 (11 + 5 * (k : Int)) 1 (by omega) rfl wr hD.box (HRW.out.later hD.nb.bel) HXO.out (by omega) (by have := HSX.out; omega) (by omega)
          have hat6 := at_ok w.heap.size (some ad) c xs (12 + 5 * k) 4 (12 + 5 * (k : Int)) 4 (by omega) rfl wr hD.box (HRW.out.later hD.nb.bel) HXO.out (by omega) (by have := HSX.out; omega) (by omega)
          have b1 := nf_lt HXO.out (11 + 5 * k) (n := 1) (by decide)
          have b4 := nf_lt HXO.out (12 + 5 * k) (n := 4) (by decide)
          obtain ⟨kd, hkd⟩ : ∃ kd, kd = nf xs (11 + 5 * k) 1 := ⟨_, rfl⟩
          obtain ⟨lb, hlb⟩ : ∃ lb, lb = nf xs (12 + 5 * k) 4 := ⟨_, rfl⟩
          rw [← hkd] at hat5 b1
          rw [← hlb] at hat6 b4
          have hen : entAt xs k = (kd, lb) := by unfold entAt; rw [hkd, hlb]
          have hes : ents xs (k + 1) = ents xs k ++ [(kd, lb)] := by rw [ents_snoc, hen]
          have HES := Lib.hid hes
          have HAT5 := Lib.hid hat5
          have HAT6 := Lib.hid hat6
          have hel := ents_len xs k
          have q7 := fun o => (hD.nb.nt.alloc o).cells3.2.2
          have hro := hD.nb.row
          rw [hel] at hro
          have HRO := Lib.hid hro
          obtain ⟨es, hee⟩ : ∃ es, es = ents xs k := ⟨_, rfl⟩
          rw [← hee] at HD HES hel HRO ⊢
          have HEL := Lib.hid hel
          have k1 : (kd : Int) < 256 := by omega
          have l1 : (lb : Int) < 4294967296 := by omega
          have wk : IntKind.i64.wrap (kd : Int) = kd := IntWalk.i64_in _ (by omega)
          have wl : IntKind.i64.wrap (lb : Int) = lb := IntWalk.i64_in _ (by omega)
          have g1 : (k : Int) < s := by omega
          obtain ⟨ac, hac⟩ : ∃ ac, (m && es.all okE) = ac := ⟨_, rfl⟩
          have HAC := Lib.hid hac
          rw [hac]
          clear hat5 hat6 hkd hlb hen hes hel hee hac b1 b4 hD hro
          have hfin : ∀ b, b = (ac && okE (kd, lb)) → b = (m && (es ++ [(kd, lb)]).all okE) := fun b hb => by rw [hb, ← HAC.out, List.all_append, Bool.and_assoc]; simp
          have HFIN := Lib.hid hfin
          clear hfin
          obtain ⟨bv, hbv, hcase⟩ : ∃ bv, bv = (ac && okE (kd, lb)) ∧ ((ac = false ∧ bv = false) ∨ (ac = true ∧ 4 ≤ kd ∧ bv = false) ∨ (ac = true ∧ kd < 4 ∧ kd ≠ 0 ∧ bv = true) ∨ (ac = true ∧ kd = 0 ∧ lb ≠ 0 ∧ bv = false) ∨ (ac = true ∧ kd = 0 ∧ lb = 0 ∧ bv = true)) := by
            refine ⟨_, rfl, ?_⟩
            rcases ac with _ | _
            · exact .inl ⟨rfl, rfl⟩
            · by_cases h1 : 4 ≤ kd
              · exact .inr (.inl ⟨rfl, h1, by simp [okE]; omega⟩)
              · by_cases h2 : kd = 0
                · by_cases h3 : lb = 0
                  · exact .inr (.inr (.inr (.inr ⟨rfl, h2, h3, by simp [okE]; omega⟩)))
                  · exact .inr (.inr (.inr (.inl ⟨rfl, h2, h3, by simp [okE]; omega⟩)))
                · exact .inr (.inr (.inl ⟨rfl, by omega, h2, by simp [okE]; omega⟩))
          have HBV := Lib.hid hbv
          clear hbv
          rcases hcase with ⟨rfl, rfl⟩ | ⟨rfl, h1, rfl⟩ | ⟨rfl, h1, h2, rfl⟩ | ⟨rfl, h1, h2, rfl⟩ | ⟨rfl, h1, h2, rfl⟩
          · skip
            go_wp2_with (first
              | (go_at_call 27; (with_reducible refine HAT5.out.mono ?_); rintro e w3 ⟨rfl, hw3⟩; subst w3)
              | (go_at_call 27; (with_reducible refine HAT6.out.mono ?_); rintro e w3 ⟨rfl, hw3⟩; subst w3)
              | (at_builtin; (refine wpList_append_any _ rfl _ _ 26 rfl w.heap.size 48 i0 _ 2 16 Try.underlying26 hi0 hz0 hz1 hz2 rfl (by decide) _ k (ens es) rfl ((HRO.out.alloc _).alloc _) (some ⟨wr.heap.size + 1, 0, none⟩) 1 1 (env (kd, lb)) rfl rfl (Rd.blk_all (Blk.new_ _ _ _ (by simp))) (env_one _) (by unfold maxLen; omega) (by omega) (by have := HD.out.nb.bel.size; simp; omega) ?_); intro v8 w8 hown8 hg8 hat8; obtain ⟨A8, c8, rfl, -, -⟩ := own_form hown8; obtain ⟨p8, f8⟩ := HD.out.nb.open_ (((Below.refl wr.heap.size wr).alloc (Nat.le_refl _) _).alloc (by simp) _) hg8; have HP := Lib.hid (HD.out.push (((Below.refl wr.heap.size wr).alloc (Nat.le_refl _) _).alloc (by simp) _) hg8 (kd, lb) (by rw [HEL.out]; exact hown8)); clear hown8 hg8 hat8))
            go_roundw
            case rel => exact ⟨k + 1, c8, A8, by omega, by go_num, by rw [HES.out]; exact congrArg Value.bool (HFIN.out _ HBV.out), by rw [HES.out]; exact HP.out⟩
            case measure => simp [intOf]; omega
          · have e1 : decide ((kd : Int) < 4) = false := by simp; omega
            have e2 : decide (kd < 4) = false := by simp; omega
            clear h1
            go_wp2_with (first
              | (go_at_call 27; (with_reducible refine HAT5.out.mono ?_); rintro e w3 ⟨rfl, hw3⟩; subst w3)
              | (go_at_call 27; (with_reducible refine HAT6.out.mono ?_); rintro e w3 ⟨rfl, hw3⟩; subst w3)
              | (at_builtin; (refine wpList_append_any _ rfl _ _ 26 rfl w.heap.size 48 i0 _ 2 16 Try.underlying26 hi0 hz0 hz1 hz2 rfl (by decide) _ k (ens es) rfl ((HRO.out.alloc _).alloc _) (some ⟨wr.heap.size + 1, 0, none⟩) 1 1 (env (kd, lb)) rfl rfl (Rd.blk_all (Blk.new_ _ _ _ (by simp))) (env_one _) (by unfold maxLen; omega) (by omega) (by have := HD.out.nb.bel.size; simp; omega) ?_); intro v8 w8 hown8 hg8 hat8; obtain ⟨A8, c8, rfl, -, -⟩ := own_form hown8; obtain ⟨p8, f8⟩ := HD.out.nb.open_ (((Below.refl wr.heap.size wr).alloc (Nat.le_refl _) _).alloc (by simp) _) hg8; have HP := Lib.hid (HD.out.push (((Below.refl wr.heap.size wr).alloc (Nat.le_refl _) _).alloc (by simp) _) hg8 (kd, lb) (by rw [HEL.out]; exact hown8)); clear hown8 hg8 hat8))
            go_roundw
            case rel => exact ⟨k + 1, c8, A8, by omega, by go_num, by rw [HES.out]; exact congrArg Value.bool (HFIN.out _ HBV.out), by rw [HES.out]; exact HP.out⟩
            case measure => simp [intOf]; omega
          · have e1 : decide ((kd : Int) < 4) = true := by simp; omega
            have e2 : decide (kd < 4) = true := by simp; omega
            have e3 : decide (0 < (kd : Int)) = true := by simp; omega
            have e4 : decide (0 < kd) = true := by simp; omega
            clear h1 h2
            go_wp2_with (first
              | (go_at_call 27; (with_reducible refine HAT5.out.mono ?_); rintro e w3 ⟨rfl, hw3⟩; subst w3)
              | (go_at_call 27; (with_reducible refine HAT6.out.mono ?_); rintro e w3 ⟨rfl, hw3⟩; subst w3)
              | (at_builtin; (refine wpList_append_any _ rfl _ _ 26 rfl w.heap.size 48 i0 _ 2 16 Try.underlying26 hi0 hz0 hz1 hz2 rfl (by decide) _ k (ens es) rfl ((HRO.out.alloc _).alloc _) (some ⟨wr.heap.size + 1, 0, none⟩) 1 1 (env (kd, lb)) rfl rfl (Rd.blk_all (Blk.new_ _ _ _ (by simp))) (env_one _) (by unfold maxLen; omega) (by omega) (by have := HD.out.nb.bel.size; simp; omega) ?_); intro v8 w8 hown8 hg8 hat8; obtain ⟨A8, c8, rfl, -, -⟩ := own_form hown8; obtain ⟨p8, f8⟩ := HD.out.nb.open_ (((Below.refl wr.heap.size wr).alloc (Nat.le_refl _) _).alloc (by simp) _) hg8; have HP := Lib.hid (HD.out.push (((Below.refl wr.heap.size wr).alloc (Nat.le_refl _) _).alloc (by simp) _) hg8 (kd, lb) (by rw [HEL.out]; exact hown8)); clear hown8 hg8 hat8))
            go_roundw
            case rel => exact ⟨k + 1, c8, A8, by omega, by go_num, by rw [HES.out]; exact congrArg Value.bool (HFIN.out _ HBV.out), by rw [HES.out]; exact HP.out⟩
            case measure => simp [intOf]; omega
          · have e1 : decide ((kd : Int) < 4) = true := by simp; omega
            have e2 : decide (kd < 4) = true := by simp; omega
            have e3 : decide (0 < (kd : Int)) = false := by simp; omega
            have e4 : decide (0 < kd) = false := by simp; omega
            have e5 : ((lb : Int) == 0) = false := by simp; omega
            clear h1 h2
            go_wp2_with (first
              | (go_at_call 27; (with_reducible refine HAT5.out.mono ?_); rintro e w3 ⟨rfl, hw3⟩; subst w3)
              | (go_at_call 27; (with_reducible refine HAT6.out.mono ?_); rintro e w3 ⟨rfl, hw3⟩; subst w3)
              | (at_builtin; (refine wpList_append_any _ rfl _ _ 26 rfl w.heap.size 48 i0 _ 2 16 Try.underlying26 hi0 hz0 hz1 hz2 rfl (by decide) _ k (ens es) rfl ((HRO.out.alloc _).alloc _) (some ⟨wr.heap.size + 1, 0, none⟩) 1 1 (env (kd, lb)) rfl rfl (Rd.blk_all (Blk.new_ _ _ _ (by simp))) (env_one _) (by unfold maxLen; omega) (by omega) (by have := HD.out.nb.bel.size; simp; omega) ?_); intro v8 w8 hown8 hg8 hat8; obtain ⟨A8, c8, rfl, -, -⟩ := own_form hown8; obtain ⟨p8, f8⟩ := HD.out.nb.open_ (((Below.refl wr.heap.size wr).alloc (Nat.le_refl _) _).alloc (by simp) _) hg8; have HP := Lib.hid (HD.out.push (((Below.refl wr.heap.size wr).alloc (Nat.le_refl _) _).alloc (by simp) _) hg8 (kd, lb) (by rw [HEL.out]; exact hown8)); clear hown8 hg8 hat8))
            go_roundw
            case rel => exact ⟨k + 1, c8, A8, by omega, by go_num, by rw [HES.out]; exact congrArg Value.bool (HFIN.out _ HBV.out), by rw [HES.out]; exact HP.out⟩
            case measure => simp [intOf]; omega
          · have e1 : decide ((kd : Int) < 4) = true := by simp; omega
            have e2 : decide (kd < 4) = true := by simp; omega
            have e3 : decide (0 < (kd : Int)) = false := by simp; omega
            have e4 : decide (0 < kd) = false := by simp; omega
            have e5 : ((lb : Int) == 0) = true := by simp; omega
            clear h1 h2
            go_wp2_with (first
              | (go_at_call 27; (with_reducible refine HAT5.out.mono ?_); rintro e w3 ⟨rfl, hw3⟩; subst w3)
              | (go_at_call 27; (with_reducible refine HAT6.out.mono ?_); rintro e w3 ⟨rfl, hw3⟩; subst w3)
              | (at_builtin; (refine wpList_append_any _ rfl _ _ 26 rfl w.heap.size 48 i0 _ 2 16 Try.underlying26 hi0 hz0 hz1 hz2 rfl (by decide) _ k (ens es) rfl ((HRO.out.alloc _).alloc _) (some ⟨wr.heap.size + 1, 0, none⟩) 1 1 (env (kd, lb)) rfl rfl (Rd.blk_all (Blk.new_ _ _ _ (by simp))) (env_one _) (by unfold maxLen; omega) (by omega) (by have := HD.out.nb.bel.size; simp; omega) ?_); intro v8 w8 hown8 hg8 hat8; obtain ⟨A8, c8, rfl, -, -⟩ := own_form hown8; obtain ⟨p8, f8⟩ := HD.out.nb.open_ (((Below.refl wr.heap.size wr).alloc (Nat.le_refl _) _).alloc (by simp) _) hg8; have HP := Lib.hid (HD.out.push (((Below.refl wr.heap.size wr).alloc (Nat.le_refl _) _).alloc (by simp) _) hg8 (kd, lb) (by rw [HEL.out]; exact hown8)); clear hown8 hg8 hat8))
            go_roundw
            case rel => exact ⟨k + 1, c8, A8, by omega, by go_num, by rw [HES.out]; exact congrArg Value.bool (HFIN.out _ HBV.out), by rw [HES.out]; exact HP.out⟩
            case measure => simp [intOf]; omega
        · obtain rfl : k = s := by omega
          obtain ⟨rl, hrl⟩ : ∃ rl, rl = xs.drop L := ⟨_, rfl⟩
          have hrll : rl.length = xs.length - L := by rw [hrl, List.length_drop]
          have hgood : good xs k = ((m && (ents xs k).all okE) && zeros rl) := by
            unfold good
            rw [hrl, HLL.out, ← HM.out, HM0.out]
          have HC := Lib.hid (dCode_form HSX.out HSL.out)
          have hfs : dSeq xs k = (if good xs k = true then sq else 0) ∧ dNext xs k = (if good xs k = true then (nx : Int) - 1 else 0) ∧ dEnts xs k = (if good xs k = true then ents xs k else []) ∧ dCode xs k = (if good xs k = true then 0 else 4) := by
            unfold dSeq dNext dEnts
            rw [HC.out, HSQ.out, HNX.out]
            rcases good xs k <;> exact ⟨rfl, rfl, rfl, rfl⟩
          rw [hgood] at hfs
          have HFS := Lib.hid hfs
          obtain ⟨A2, hA2⟩ : ∃ A2, A2 = (if c = L then some ad else (some ad).map (·.add (L * 1))) := ⟨_, rfl⟩
          have hlL : L ≤ xs.length := by have := HLL.out; have := HSX.out; omega
          have hcut := fun W => cut_hi_ 31 1 Try.underlying31 (fun _ => by kernel_rfl) (some ad) xs.length c L (L : Int) rfl hlL W
          rw [← hA2, ← hrll] at hcut
          have hR2 : Rd w A2 (byv rl) := by
            have := HRW.out.cutg (size := 1) (c := c) (n := L) (len := xs.length) (by simp [byv_len]) hc
            rw [← hA2, Nat.mul_one, ← byv_drop, ← hrl] at this
            exact this
          have HR2 := Lib.hid hR2
          obtain ⟨ac, hac⟩ : ∃ ac, ac = (m && (ents xs k).all okE) := ⟨_, rfl⟩
          rw [← hac] at HFS ⊢
          have hrb : (rl.length : Int) ≤ 100000 := by omega
          have hLn : decide (xs.length < L) = false := by simp; omega
          clear hrll hgood hfs hR2 hac hA2 hrl hD
          go_wp2
          go_loopw [9, 13, 101] (fun ok _ i wi => ∃ j : Nat, j ≤ rl.length ∧ i = .int .i64 j ∧ ok = .bool (ac && zeros (rl.take j)) ∧ Dr w wi (w.heap.size + 1) X w.heap.size sq ((nx : Int) - 1) (.slice A1' k c1') (ents xs k) (.slice (some ad) xs.length c)) (fun _ _ i _ => rl.length - (intOf i).toNat)
          case atStart => exact ⟨0, by omega, rfl, by simp [zeros], HD.out⟩
          case round =>
            obtain ⟨j, hj, rfl, rfl, hD⟩ := hrel
            have HD := Lib.hid hD
            by_cases hjl : j < rl.length
            · obtain ⟨x, hx1⟩ : ∃ x, rl[j]? = some x := ⟨_, List.getElem?_eq_getElem hjl⟩
              obtain ⟨ad2, rfl, hcx⟩ := (HR2.out.later hD.nb.bel) j (.int .u8 x) (by simp [byv, hx1])
              have hz : zeros (rl.take (j + 1)) = (zeros (rl.take j) && (x == 0)) := by rw [take_snoc_pk hx1]; simp [zeros]
              have HZ := Lib.hid hz
              have g1 : (j : Int) < rl.length := by omega
              obtain ⟨a2, ha2⟩ : ∃ a2, a2 = (ac && zeros (rl.take j)) := ⟨_, rfl⟩
              rw [← ha2]
              have HA2 := Lib.hid ha2
              clear hx1 hz ha2 hD
              rcases a2 with _ | _
              all_goals
                go_wp2
                go_roundw
                case rel => exact ⟨j + 1, by omega, by go_num, by rw [HZ.out, ← Bool.and_assoc, ← HA2.out]; rfl, HD.out⟩
                case measure => simp [intOf]; omega
            · obtain rfl : j = rl.length := by omega
              rw [List.take_length]
              obtain ⟨r0, r1, r2⟩ := hD.nb.res.cells3
              have f0 := hD.nb.res.frozen 0
              have f1 := hD.nb.res.frozen 1
              have f2 := hD.nb.res.frozen 2
              rcases hg : (ac && zeros rl) with _ | _
              all_goals
                rw [hg] at HFS
                clear hg hD
              · go_wp2
                have hz := zero_done HD.out.nb.res HD.out.nb.bel (Nat.le_succ _)
                refine read_end _ _ hz.1 rfl rfl ⟨?_, hz.2⟩
                rw [HFS.out.1, HFS.out.2.1, HFS.out.2.2.1, HFS.out.2.2.2]
                exact ntRes_zero _ 4
              · obtain ⟨x0', x1, x2⟩ := HD.out.nb.nt.cells3
                go_wp2
                have hz := HD.out.nb.done (Nat.le_succ _)
                refine read_end _ _ hz.1 rfl rfl ⟨?_, hz.2.2⟩
                rw [HFS.out.1, HFS.out.2.1, HFS.out.2.2.1, HFS.out.2.2.2]
                have hw := hz.2.1
                rw [ents_len] at hw
                refine ⟨A1', c1', ?_, Rd.of_own hw⟩
                simp only [if_true, ents_len]
                rfl
  · have hd : decide (zs = sealL ys) = false := decide_eq_false fun e => hsl (HSE.out.1 e)
    have HC2 := Lib.hid (dCode_sum HSX.out hsl)
    have f0 := HN2.out.frozen 0
    have f1 := HN2.out.frozen 1
    have f2 := HN2.out.frozen 2
    obtain ⟨p0, p1, p2⟩ := HN2.out.cells3
    rw [hd]
    clear hsl hd
    go_wp2
    have hz := zero_done HN2.out HB2.out (by omega)
    refine read_end _ _ hz.1 rfl rfl ⟨?_, hz.2⟩
    unfold dSeq dNext dEnts
    rw [HC2.out]
    exact ntRes_zero _ 5
theorem reads_ok (A : Option Addr) (c : Nat) (xs : List Int) (slots : Int) (w : World) (hr : Rd w A (byv xs)) (hx : xs.length ≤ 100000) (hc : xs.length ≤ c) (ho : Oct xs) :
    Calls Try.prog 15 #[.slice A xs.length c, .int .i64 slots] w fun e w' => NtRes w' e (dSeq xs slots) (dNext xs slots) (dEnts xs slots) (dCode xs slots) ∧ Below w.heap.size w w' := by
  by_cases h : slots < 0 ∨ (xs.length : Int) < 15 + 5 * slots
  · have hc := dCode_size h
    unfold dSeq dNext dEnts
    rw [hc]
    exact reads_size A xs.length c slots w hx h
  · obtain ⟨s, rfl⟩ := Int.eq_ofNat_of_zero_le (show 0 ≤ slots by omega)
    exact reads_rest A c xs s w hr hx hc ho (by omega)
end Go.Proofs.Ytbokddacobohnaa
