/- Awake of chapter 10. No further condition. -/
import Derived.Test.YtcpngnnnggpfpaaIl
import Derived.Test.YtcpngnnnggpfpaaIa
import Derived.Test.YtcpngnnnggpfpaaIdb
namespace Go.Proofs.Ytcpngnnnggpfpaa
open Go.RowKit
attribute [local go_sem ↓] Go.wp_at_zero Go.wp_at_succ

def awX : Sh := ⟨3, 32, 4, 2, 1, 1⟩
def awY : Pic := makeP ⟨7, 0, 0, [], [4]⟩ 4 2 8 1
def awL : List (List Int) := pgsL 3 17 (picL awY) 4
theorem awY_eq : awY = ⟨7, 1, 0, [(0, 0), (0, 0), (0, 0), (0, 0)], [4]⟩ := by decide
theorem aw_gd : Gd awX 52 4 17 := ⟨by decide, by decide, by decide, by decide, by decide⟩
theorem aw_ok : OkPic awY ∧ OkIm 4 2 8 awY ∧ awY.cs.length = 4 ∧ awY.mp.length = 1 := makeP_ok _ ⟨by decide, by decide, by decide, by simp, by intro p hp; simp at hp; omega⟩ 4 2 8 1 (by decide) (by decide) (by decide) (by decide)
theorem bcell_ {W W1 : World} (hb : Below W.heap.size W W1) : (∀ b o, b < W.heap.size → W1.cell? ⟨b, o, none⟩ = W.cell? ⟨b, o, none⟩) ∧ (∀ b o, b < W.heap.size → W1.frozen? ⟨b, o, none⟩ = W.frozen? ⟨b, o, none⟩) :=
  ⟨fun b o h => hb.cell (p := ⟨b, o, none⟩) h, fun b o h => hb.frozen (p := ⟨b, o, none⟩) h⟩
section
variable {w w' : World} {g h : Nat} {a b c d e u : Value} {p : Addr}
/-- Block g is an image's. -/
def Has5 (w : World) (g : Nat) : Prop := ∃ a b c d e, Blk w g 28 #[a, b, c, d, e]
theorem Has5.new (hs : w.heap.size = g) : Has5 (w.alloc (.cells #[a, b, c, d, e] 28)) g := ⟨a, b, c, d, e, Blk.new_ _ _ _ hs⟩
theorem Has5.alloc (q : Has5 w g) (o : Obj) : Has5 (w.alloc o) g := by
  obtain ⟨a, b, c, d, e, q⟩ := q
  exact ⟨a, b, c, d, e, q.alloc o⟩
theorem Has5.drew (q : Has5 w g) : Has5 w.drew g := q
theorem Has5.later (q : Has5 w g) (hb : Below w.heap.size w w') : Has5 w' g := by
  obtain ⟨a, b, c, d, e, q⟩ := q
  exact ⟨a, b, c, d, e, q.later hb⟩
theorem Blk.set5e (q : Has5 w g) : Blk (((((w.setCell ⟨g, 0, none⟩ a).setCell ⟨g, 1, none⟩ b).setCell ⟨g, 2, none⟩ c).setCell ⟨g, 3, none⟩ d).setCell ⟨g, 4, none⟩ e) g 28 #[a, b, c, d, e] := by
  obtain ⟨_, _, _, _, _, q⟩ := q
  exact (im_set q a b c d e).1
theorem cell_set5 (k : w.cell? p = some u) (hne : p.block ≠ g) : (((((w.setCell ⟨g, 0, none⟩ a).setCell ⟨g, 1, none⟩ b).setCell ⟨g, 2, none⟩ c).setCell ⟨g, 3, none⟩ d).setCell ⟨g, 4, none⟩ e).cell? p = some u := by
  have hx : ∀ i, (⟨g, i, none⟩ : Addr) ≠ p := fun i e => hne (by rw [← e])
  rw [World.cell?_setCell_other _ _ _ _ (hx _), World.cell?_setCell_other _ _ _ _ (hx _), World.cell?_setCell_other _ _ _ _ (hx _), World.cell?_setCell_other _ _ _ _ (hx _), World.cell?_setCell_other _ _ _ _ (hx _)]
  exact k
theorem cell_alloc (k : w.cell? p = some u) (o : Obj) : (w.alloc o).cell? p = some u := by
  rw [((Below.refl w.heap.size w).alloc (Nat.le_refl _) o).cell (World.block_lt_of_cell? w _ k)]
  exact k
theorem cell_drew (k : w.cell? p = some u) : w.drew.cell? p = some u := k
end
/-- What the law's Awake holds behind its one great statement. -/
structure AwR (w W : World) (X : Nat) (A : Option Addr) (c : Nat) (ad : Addr) (d : Nat) : Prop where
  im : Blk W X 28 #[.int .u64 7, .int .i64 0, .int .i64 0, .slice A 4 c, .slice (some ad) 1 d]
  el : W.cell? (ad.add 0) = some (.int .i64 3)
  bel : Below w.heap.size w W
theorem awS (W : World) : Calls Try.prog 19 #[.agg #[.int .u8 0, .int .u8 0, .int .u8 0, .int .u8 0, .int .u8 0, .int .u8 0]] W fun e w' => e = .returned (.agg #[.int .i64 3, .int .i64 32, .int .i64 4, .int .i64 2, .int .i64 1, .int .i64 1]) ∧ Below W.heap.size W w' :=
  shape_ok 0 0 0 0 0 0 W ⟨by decide, by decide, by decide, by decide, by decide, by decide⟩
theorem awM (W : World) (B : Option Addr) (d : Nat) (hr : Rd W B (mus [4])) : Calls Try.prog 12 #[.agg #[.int .i64 3, .int .i64 32, .int .i64 4, .int .i64 2, .int .i64 1, .int .i64 1], .agg #[.int .u64 7, .int .i8 0, .int .u8 0, .slice none 0 0, .slice B 1 d]] W fun e w' => (∃ A c B d, e = .returned (.agg #[.int .u64 7, .int .i64 0, .int .i64 0, .slice A 4 c, .slice B 1 d]) ∧ Rd w' A (sgs awY.cs) ∧ Rd w' B (mps awY.mp)) ∧ Below W.heap.size W w' := by
  refine (make_ok awX ⟨7, 0, 0, [], [4]⟩ none B 0 d 4 2 8 1 W ⟨by decide, by decide, by decide, by simp, by intro p hp; simp at hp; omega⟩ rfl rfl rfl (by decide) (by decide) (by decide) 8 1 (by decide) (by decide) (by decide) (by decide) (Rd.nil _ _) hr).mono ?_
  rintro e w' ⟨⟨A, c, B', d', rfl, h1, h2⟩, hb⟩
  exact ⟨⟨A, c, B', d', rfl, h1, h2⟩, hb⟩
theorem awE (W : World) (A B : Option Addr) (c d : Nat) (ra : Rd W A (sgs awY.cs)) (rb : Rd W B (mps awY.mp)) : Calls Try.prog 9 #[.agg #[.int .i64 3, .int .i64 32, .int .i64 4, .int .i64 2, .int .i64 1, .int .i64 1], .int .u64 3, .agg #[.int .u64 7, .int .i64 0, .int .i64 0, .slice A 4 c, .slice B 1 d]] W fun e w' => (∃ A c l, e = .returned (.slice A 4 c) ∧ rws l = awL ∧ Rd w' A (scs l) ∧ Hsc w' l ∧ 4 ≤ c) ∧ Below W.heap.size W w' := by
  refine (enc_ok awX 3 awY A B c d 52 4 17 W (by decide) aw_gd (by decide) aw_ok.1 (by decide) (by decide) ra rb).mono ?_
  rintro e w' ⟨⟨A, c, l, rfl, h1, h2, h3, h4⟩, hb⟩
  rw [pgsL_len] at h4 ⊢
  exact ⟨⟨A, c, l, rfl, h1, h2, h3, h4⟩, hb⟩
theorem pgsL_oct {gen g : Nat} {all : List Int} (h : Oct all) (P : Nat) : ∀ xs ∈ pgsL gen g all P, Oct xs := by
  intro xs hx
  obtain ⟨i, _, rfl⟩ := List.mem_map.1 hx
  exact sealL_oct (pad_oct (pgB_oct h _ _ _) _)
theorem rws_oct {l : List Sc} {xs : List (List Int)} (h : rws l = xs) (ho : ∀ x ∈ xs, Oct x) : ∀ s ∈ l, Oct s.raw := fun s hs => ho _ (by rw [← h]; exact List.mem_map.2 ⟨s, hs, rfl⟩)
theorem awD (W : World) (A : Option Addr) (c : Nat) (l : List Sc) (h1 : rws l = awL) (h2 : Rd W A (scs l)) (h3 : Hsc W l) (h4 : 4 ≤ c) : Calls Try.prog 10 #[.agg #[.int .i64 3, .int .i64 32, .int .i64 4, .int .i64 2, .int .i64 1, .int .i64 1], .int .u64 3, .slice A 4 c] W fun e w' => (∃ A c B d, e = .returned (.tuple #[.agg #[.int .u64 7, .int .i64 0, .int .i64 0, .slice A 4 c, .slice B 1 d], .int .i64 0]) ∧ ∃ ad, B = some ad ∧ w'.cell? (ad.add 0) = some (.int .i64 3) ∧ W.heap.size ≤ ad.block) ∧ Below W.heap.size W w' := by
  have hl : l.length = 4 := by rw [← rws_len, h1]; exact pgsL_len _ _ _ _
  have hb := back_code 3 17 4 4 2 8 awY aw_ok.1 aw_ok.2.1 aw_ok.2.2.1 (by decide) (by decide) (by rw [picL_len]; decide)
  refine (dec_ok awX 3 A c l 52 4 17 4 2 8 1 W (by decide) aw_gd (by decide) (by decide) rfl rfl rfl 8 1 (by decide) (by decide) (by decide) (by decide) h2 h3 (rws_oct h1 (pgsL_oct (picL_oct _) _)) hl h4).mono ?_
  rw [h1, show decC 3 17 4 4 2 8 1 awL = 0 from hb.1, show decP 3 17 4 4 2 8 1 awL = awY from hb.2]
  rintro e w' ⟨⟨A, c, B, d, rfl, r1, r2, -, r4⟩, hb⟩
  refine ⟨⟨A, c, B, d, rfl, ?_⟩, hb⟩
  obtain ⟨ad, e, h⟩ := mps_at r2 (i := 0) (p := 4) rfl
  exact ⟨ad, e, h, r4 ad e⟩
set_option maxRecDepth 100000 in
set_option maxHeartbeats 6400000 in
theorem awake_ok (w : World) : Calls Try.prog 7 #[] w fun e w' => e = .returned (.bool true) ∧ Below w.heap.size w w' := by
  have HA5 := Lib.hid awake5_ok
  go_enter Try.func7, Try.ntmps7
  go_upto_region 2 with (go_at_call 19; (with_reducible refine (awS _).mono ?_); rintro e w1 ⟨rfl, hb1⟩; have HB1 := Lib.hid hb1; clear hb1)
  have HB2 : Hid (Below w.heap.size w (w1.alloc (.cells #[.int .i64 3, .int .i64 32, .int .i64 4, .int .i64 2, .int .i64 1, .int .i64 1] 23))) := Lib.hid (HB1.out.alloc HB1.out.size _)
  have HS := Lib.hid (Blk.new w1 23 #[.int .i64 3, .int .i64 32, .int .i64 4, .int .i64 2, .int .i64 1, .int .i64 1])
  obtain ⟨S, hS⟩ : ∃ S, S = w1.heap.size := ⟨_, rfl⟩
  rw [← hS] at HS
  rw [← hS]
  generalize w1.alloc (.cells #[.int .i64 3, .int .i64 32, .int .i64 4, .int .i64 2, .int .i64 1, .int .i64 1] 23) = W at HB2 HS ⊢
  obtain ⟨t0, t1, t2, t3, t4, t5⟩ := HS.out.cells6
  obtain ⟨d0, d1, d2, d3, d4, d5⟩ := HS.out.drew.cells6
  clear hS
  have HU : Hid (Rd (W.alloc (.cells #[.int .u16 4] 56)) (some ⟨W.heap.size, 0, none⟩) (mus [4])) := Lib.hid (Rd.blk_all (xs := mus [4]) (Blk.new W 56 _))
  have HU2 : Hid (∀ o, Rd ((W.alloc o).alloc (.cells #[.int .u16 4] 56)) (some ⟨W.heap.size + 1, 0, none⟩) (mus [4])) := Lib.hid fun o => Rd.blk_all (xs := mus [4]) (Blk.new_ _ 56 _ (by simp))
  go_cut [2, 3] (fun p q wx => ∃ X A c ad d, p = .pointer (some ⟨X, 0, none⟩) ∧ q = .int .i64 0 ∧ AwR w wx X A c ad d)
  case first =>
    go_region_held3 (fun w' => w'.cell? ⟨S, 0, none⟩ = some (.int .i64 3) ∧ w'.cell? ⟨S, 1, none⟩ = some (.int .i64 32) ∧ w'.cell? ⟨S, 2, none⟩ = some (.int .i64 4) ∧ w'.cell? ⟨S, 3, none⟩ = some (.int .i64 2) ∧ w'.cell? ⟨S, 4, none⟩ = some (.int .i64 1) ∧ w'.cell? ⟨S, 5, none⟩ = some (.int .i64 1))
      (exact (HS.out.later (by (repeat' (first | (with_reducible exact Below.refl _ _) | (with_reducible exact Nat.le_refl _) | (with_reducible exact HW3.out) | (with_reducible exact HW3.out.size) | (with_reducible exact HW2.out) | (with_reducible exact HW2.out.size) | (with_reducible exact HW1.out) | (with_reducible exact HW1.out.size) | (with_reducible refine Below.drew ?_) | (with_reducible refine Below.alloc ?_ ?_ _) | (with_reducible refine Below.setCell ?_ ?_ _) | assumption | (exact Nat.le_of_lt (by assumption)) | (simp; done) | (simp; omega) | (have h9 := HW3.out.size; simp; omega) | (have h9 := HW2.out.size; simp; omega) | (have h9 := HW1.out.size; simp; omega))))).cells6)
      (first
        | (go_at_call 12; (with_reducible refine (awM _ _ _ (by first | exact HU.out.later (by (repeat' (first | (with_reducible exact Below.refl _ _) | (with_reducible exact Nat.le_refl _) | (with_reducible refine Below.drew ?_) | (with_reducible refine Below.alloc ?_ ?_ _) | (simp; done) | (simp; omega)))) | exact (HU2.out _).later (by (repeat' (first | (with_reducible exact Below.refl _ _) | (with_reducible exact Nat.le_refl _) | (with_reducible refine Below.drew ?_) | (with_reducible refine Below.alloc ?_ ?_ _) | (simp; done) | (simp; omega)))))).mono ?_); rintro e u1 ⟨⟨A1, c1, B1, e1, rfl, ra1, rb1⟩, hb1⟩; have HRA := Lib.hid ra1; have HRB := Lib.hid rb1; have HW1 : Hid (Below W.heap.size W u1) := Lib.hid (Below.trans (by (repeat' (first | (with_reducible exact Below.refl _ _) | (with_reducible exact Nat.le_refl _) | (with_reducible refine Below.drew ?_) | (with_reducible refine Below.alloc ?_ ?_ _) | (simp; done) | (simp; omega)))) (hb1.mono (by (repeat' (first | (with_reducible exact Below.refl _ _) | (with_reducible exact Nat.le_refl _) | (with_reducible refine Below.drew ?_) | (with_reducible refine Below.alloc ?_ ?_ _) | (simp; done) | (simp; omega)))))); obtain ⟨hc1, hf1⟩ := bcell_ hb1; have hz10 : W.heap.size < u1.heap.size := (by have h9 := hb1.size; (try simp at h9); omega); (try have hz11 : W.heap.size + 1 < u1.heap.size := (by have h9 := hb1.size; (try simp at h9); omega)); have HD1 := Lib.hid hb1; clear ra1 rb1 hb1)
        | (go_at_call 9; (with_reducible refine (awE _ _ _ _ _ (HRA.out.later (by (repeat' (first | (with_reducible exact Below.refl _ _) | (with_reducible exact Nat.le_refl _) | (with_reducible refine Below.drew ?_) | (with_reducible refine Below.alloc ?_ ?_ _) | (simp; done) | (simp; omega))))) (HRB.out.later (by (repeat' (first | (with_reducible exact Below.refl _ _) | (with_reducible exact Nat.le_refl _) | (with_reducible refine Below.drew ?_) | (with_reducible refine Below.alloc ?_ ?_ _) | (simp; done) | (simp; omega)))))).mono ?_); rintro e u2 ⟨⟨A2, c2, l2, rfl, g1, g2, g3, g4⟩, hb2⟩; have HG1 := Lib.hid g1; have HG2 := Lib.hid g2; have HG3 := Lib.hid g3; have HG4 := Lib.hid g4; have HW2 : Hid (Below W.heap.size W u2) := Lib.hid (Below.trans (by (repeat' (first | (with_reducible exact Below.refl _ _) | (with_reducible exact Nat.le_refl _) | (with_reducible exact HW1.out) | (with_reducible exact HW1.out.size) | (with_reducible refine Below.drew ?_) | (with_reducible refine Below.alloc ?_ ?_ _) | (simp; done) | (simp; omega) | (have h9 := HW1.out.size; simp; omega)))) (hb2.mono (by (repeat' (first | (with_reducible exact Below.refl _ _) | (with_reducible exact Nat.le_refl _) | (with_reducible exact HW1.out) | (with_reducible exact HW1.out.size) | (with_reducible refine Below.drew ?_) | (with_reducible refine Below.alloc ?_ ?_ _) | (simp; done) | (simp; omega) | (have h9 := HW1.out.size; simp; omega)))))); obtain ⟨hc2, hf2⟩ := bcell_ hb2; have hz20 : W.heap.size < u2.heap.size := (by have h9 := hb2.size; (try simp at h9); omega); (try have hz21 : u1.heap.size < u2.heap.size := (by have h9 := hb2.size; (try simp at h9); omega)); (try have hz22 : W.heap.size + 1 < u2.heap.size := (by have h9 := hb2.size; (try simp at h9); omega)); have HD2 := Lib.hid hb2; clear g1 g2 g3 g4 hb2)
        | (go_at_call 10; (with_reducible refine (awD _ _ _ _ HG1.out (HG2.out.later (by (repeat' (first | (with_reducible exact Below.refl _ _) | (with_reducible exact Nat.le_refl _) | (with_reducible refine Below.drew ?_) | (with_reducible refine Below.alloc ?_ ?_ _) | (simp; done) | (simp; omega))))) (HG3.out.later (by (repeat' (first | (with_reducible exact Below.refl _ _) | (with_reducible exact Nat.le_refl _) | (with_reducible refine Below.drew ?_) | (with_reducible refine Below.alloc ?_ ?_ _) | (simp; done) | (simp; omega))))) HG4.out).mono ?_); rintro e u3 ⟨⟨A3, c3, B3, d3, rfl, ad, rfl, k1, k2⟩, hb3⟩; have HK := Lib.hid k1; have HK2 := Lib.hid k2; have HW3 : Hid (Below W.heap.size W u3) := Lib.hid (Below.trans (by (repeat' (first | (with_reducible exact Below.refl _ _) | (with_reducible exact Nat.le_refl _) | (with_reducible exact HW2.out) | (with_reducible exact HW2.out.size) | (with_reducible refine Below.drew ?_) | (with_reducible refine Below.alloc ?_ ?_ _) | (simp; done) | (simp; omega) | (have h9 := HW2.out.size; simp; omega)))) (hb3.mono (by (repeat' (first | (with_reducible exact Below.refl _ _) | (with_reducible exact Nat.le_refl _) | (with_reducible exact HW2.out) | (with_reducible exact HW2.out.size) | (with_reducible refine Below.drew ?_) | (with_reducible refine Below.alloc ?_ ?_ _) | (simp; done) | (simp; omega) | (have h9 := HW2.out.size; simp; omega)))))); obtain ⟨hc3, hf3⟩ := bcell_ hb3; have HC3 := Lib.hid hb3.size; have HD3 := Lib.hid hb3; have hkl : (ad.add 0).block < u3.heap.size := World.block_lt_of_cell? _ _ HK.out; rw [block_of_add] at hkl; have HKL := Lib.hid hkl; clear hkl k1 k2 hb3))
    all_goals
      go_wp2_with fail
      go_meet
      refine ⟨_, A3, c3, ad, d3, rfl, rfl, ?_, ?_, HB2.out.trans (Below.mono (B := W.heap.size) ?_ HB2.out.size)⟩
      · (repeat' (first
          | ((with_reducible refine Blk.new_ _ _ _ ?_) <;> (simp <;> omega)) | ((with_reducible refine Has5.new ?_) <;> (simp <;> omega))
          | (with_reducible refine Blk.set5e ?_) | (with_reducible refine Blk.alloc ?_ _) | (with_reducible refine Blk.drew ?_) | (with_reducible refine Has5.alloc ?_ _) | (with_reducible refine Has5.drew ?_)
          | (with_reducible refine Has5.later ?_ HD3.out) | (with_reducible refine Has5.later ?_ HD2.out) | (with_reducible refine Has5.later ?_ HD1.out)))
      · have hk2 := HK2.out
        have hkl := HKL.out
        (repeat' (first
          | (with_reducible exact HK.out)
          | (with_reducible refine cell_drew ?_) | (with_reducible refine cell_alloc ?_ _) | (with_reducible refine cell_set5 ?_ ?_) | (rw [block_of_add]; (try simp at hk2); omega)))
      · (repeat' (first | (with_reducible exact Below.refl _ _) | (with_reducible exact Nat.le_refl _) | (with_reducible exact HW3.out) | (with_reducible exact HW3.out.size) | (with_reducible exact HW2.out) | (with_reducible exact HW2.out.size) | (with_reducible exact HW1.out) | (with_reducible exact HW1.out.size) | (with_reducible refine Below.drew ?_) | (with_reducible refine Below.alloc ?_ ?_ _) | (with_reducible refine Below.setCell ?_ ?_ _) | assumption | (exact Nat.le_of_lt (by assumption)) | (simp; done) | (simp; omega) | (have h9 := HW3.out.size; simp; omega) | (have h9 := HW2.out.size; simp; omega) | (have h9 := HW1.out.size; simp; omega)))
  case rest =>
    obtain ⟨X, A, c, ad, d, rfl, rfl, hR⟩ := hcut
    obtain ⟨m0, m1, m2, m3, m4⟩ := hR.im.cells5
    have a0 := hR.el
    have a1 : wc.cell? ad = some (.int .i64 3) := by
      have e : ad.add 0 = ad := by cases ad; rfl
      rw [e] at a0
      exact a0
    have HR := Lib.hid hR
    clear hR
    go_wp2_with (go_at_call 20; (with_reducible refine (HA5.out _).mono ?_); rintro e w9 ⟨rfl, hb9⟩; have HB9 := Lib.hid (HR.out.bel.trans (hb9.mono HR.out.bel.size)); clear hb9)
    go_ret
    exact ⟨rfl, HB9.out⟩
end Go.Proofs.Ytcpngnnnggpfpaa
