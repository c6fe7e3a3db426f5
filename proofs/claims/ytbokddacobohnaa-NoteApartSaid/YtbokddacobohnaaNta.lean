/- The walk of NoteApart. No further condition. -/
import Derived.Test.YtbokddacobohnaaNt7
namespace Go.Proofs.Ytbokddacobohnaa
open Go.RowKit
attribute [local go_sem ↓] Go.wp_at_zero Go.wp_at_succ

theorem bcell_ {W W1 : World} (hb : Below W.heap.size W W1) : (∀ b o, b < W.heap.size → W1.cell? ⟨b, o, none⟩ = W.cell? ⟨b, o, none⟩) ∧ (∀ b o, b < W.heap.size → W1.frozen? ⟨b, o, none⟩ = W.frozen? ⟨b, o, none⟩) :=
  ⟨fun b o h => hb.cell (p := ⟨b, o, none⟩) h, fun b o h => hb.frozen (p := ⟨b, o, none⟩) h⟩
theorem Blk.set3_ {w : World} {g : Nat} {t : TypeId} {x y z a b c : Value} (k : Blk w g t #[x, y, z]) : Blk (((w.setCell ⟨g, 0, none⟩ a).setCell ⟨g, 1, none⟩ b).setCell ⟨g, 2, none⟩ c) g t #[a, b, c] := by
  have := ((k.set_ 0 a).set_ 1 b).set_ 2 c
  rw [set3] at this
  exact this
theorem Blk.far3_ {w : World} {g h : Nat} {t : TypeId} {cs : Array Value} {a b c : Value} (k : Blk w g t cs) (hne : g ≠ h) : Blk (((w.setCell ⟨h, 0, none⟩ a).setCell ⟨h, 1, none⟩ b).setCell ⟨h, 2, none⟩ c) g t cs :=
  ((k.far (p := ⟨h, 0, none⟩) hne a).far (p := ⟨h, 1, none⟩) hne b).far (p := ⟨h, 2, none⟩) hne c
theorem own_set3 {w : World} {base g n : Nat} {e t : TypeId} {size : Nat} {v x y z a b c : Value} {xs : List Value} (k : w.ownsRow base e size v n xs) (hb : Blk w g t #[x, y, z]) (hne : e ≠ t) : (((w.setCell ⟨g, 0, none⟩ a).setCell ⟨g, 1, none⟩ b).setCell ⟨g, 2, none⟩ c).ownsRow base e size v n xs :=
  ownsRow_fr (S := fun q => q = g) k (Fr.setCell (Fr.setCell (Fr.setCell (Fr.refl (fun q => q = g) w) (p := ⟨g, 0, none⟩) (.inl rfl) _) (p := ⟨g, 1, none⟩) (.inl rfl) _) (p := ⟨g, 2, none⟩) (.inl rfl) _) fun b hv e => own_blk_ne k hb hne (by rw [hv, e])
/-- Block g is of type t, and has three cells. -/
def Has3 (w : World) (g : Nat) (t : TypeId) : Prop := ∃ x y z, Blk w g t #[x, y, z]
theorem Has3.new {w : World} {g : Nat} {t : TypeId} {x y z : Value} (h : w.heap.size = g) : Has3 (w.alloc (.cells #[x, y, z] t)) g t := ⟨x, y, z, Blk.new_ _ _ _ h⟩
theorem Has3.alloc {w : World} {g : Nat} {t : TypeId} (k : Has3 w g t) (o : Obj) : Has3 (w.alloc o) g t := by
  obtain ⟨x, y, z, h⟩ := k
  exact ⟨x, y, z, h.alloc o⟩
theorem Has3.drew {w : World} {g : Nat} {t : TypeId} (k : Has3 w g t) : Has3 w.drew g t := k
theorem Has3.later {w w' : World} {g : Nat} {t : TypeId} (k : Has3 w g t) (hb : Below w.heap.size w w') : Has3 w' g t := by
  obtain ⟨x, y, z, h⟩ := k
  exact ⟨x, y, z, h.later hb⟩
theorem Has3.set {w : World} {g h : Nat} {t : TypeId} {a b c : Value} (k : Has3 w g t) : Has3 (((w.setCell ⟨h, 0, none⟩ a).setCell ⟨h, 1, none⟩ b).setCell ⟨h, 2, none⟩ c) g t := by
  obtain ⟨x, y, z, k⟩ := k
  by_cases e : g = h
  · subst e; exact ⟨_, _, _, k.set3_⟩
  · exact ⟨_, _, _, k.far3_ e⟩
theorem Blk.set3e {w : World} {g : Nat} {t : TypeId} {a b c : Value} (k : Has3 w g t) : Blk (((w.setCell ⟨g, 0, none⟩ a).setCell ⟨g, 1, none⟩ b).setCell ⟨g, 2, none⟩ c) g t #[a, b, c] := by
  obtain ⟨x, y, z, k⟩ := k
  exact k.set3_
theorem own_set3e {w : World} {base g n : Nat} {e : TypeId} {size : Nat} {v a b c : Value} {xs : List Value} (k : w.ownsRow base e size v n xs) (hb : Has3 w g 28) (hne : e ≠ 28) : (((w.setCell ⟨g, 0, none⟩ a).setCell ⟨g, 1, none⟩ b).setCell ⟨g, 2, none⟩ c).ownsRow base e size v n xs := by
  obtain ⟨x, y, z, hb⟩ := hb
  exact own_set3 k hb hne
/-- Two notes in boxes. -/
structure Two (w W : World) (p q : Value) (s s' n n' : Int) (m : Nat) (l l' : List En) : Prop where
  it : ∃ X Y A B c d, p = .pointer (some ⟨X, 0, none⟩) ∧ q = .pointer (some ⟨Y, 0, none⟩) ∧ Blk W X 28 #[.int .u64 s, .int .i64 n, .slice A m c] ∧ Blk W Y 28 #[.int .u64 s', .int .i64 n', .slice B m d] ∧ Rd W A (ens l) ∧ Rd W B (ens l')
  bel : Below w.heap.size w W
/-- Two notes in boxes, their rows, and the first slots. -/
structure Six6 (w W : World) (X Y : Nat) (A2 B2 A : Option Addr) (cs ds : Array Value) (l l' l0 : List En) : Prop where
  bx : Blk W X 28 cs
  by_ : Blk W Y 28 ds
  ra : Rd W A2 (ens l)
  rb : Rd W B2 (ens l')
  rs : Rd W A (sls l0)
  bel : Below w.heap.size w W
theorem Six6.later {w W W' : World} {X Y : Nat} {A2 B2 A : Option Addr} {cs ds : Array Value} {l l' l0 : List En} (k : Six6 w W X Y A2 B2 A cs ds l l' l0) (h : Below W.heap.size W W') : Six6 w W' X Y A2 B2 A cs ds l l' l0 :=
  ⟨k.bx.later h, k.by_.later h, k.ra.later h, k.rb.later h, k.rs.later h, k.bel.trans (h.mono k.bel.size)⟩
set_option maxRecDepth 100000 in
set_option maxHeartbeats 12800000 in
theorem apart_walk (A B : Option Addr) (c d : Nat) (l0 m0 : List En) (a b n1 n2 : Nat) (w : World) (ra : Rd w A (sls l0)) (rb : Rd w B (sls m0)) (hm : l0.length ≤ 9223372036854775807) (_hm2 : m0.length ≤ 9223372036854775807) (hd : m0.length ≤ d) (hwf : SlOk l0) (hwf2 : SlOk m0) (hs : a < 18446744073709551616) (hs2 : b < 18446744073709551616) (hn : n1 < 65536) (hn2 : n2 < 65536) :
    Calls Try.prog 3 #[.int .u64 a, .int .u64 b, .int .u16 n1, .int .u16 n2, .slice A l0.length c, .slice B m0.length d] w fun e w' => e = .returned (.bool true) ∧ Below w.heap.size w w' := by
  have HAW := Lib.hid (awake_ok w)
  by_cases hlong : 20 < l0.length
  · go_enter Try.func3, Try.ntmps3
    go_wp2_with (go_at_call 7; refine HAW.out.mono ?_; rintro e w1 ⟨rfl, hb1⟩)
    go_ret
    exact ⟨rfl, hb1⟩
  have dl : decide ((20 : Int) < (l0.length : Int)) = false := by simp; omega
  have dln : decide (20 < l0.length) = false := by simp; omega
  by_cases hshort : m0.length < l0.length
  · have d2 : decide ((m0.length : Int) < (l0.length : Int)) = true := by simp; omega
    have d2n : decide (m0.length < l0.length) = true := by simp; omega
    clear hlong
    go_enter Try.func3, Try.ntmps3
    go_wp2_with (go_at_call 7; refine HAW.out.mono ?_; rintro e w1 ⟨rfl, hb1⟩)
    go_ret
    exact ⟨rfl, hb1⟩
  have d2 : decide ((m0.length : Int) < (l0.length : Int)) = false := by simp; omega
  have d2n : decide (m0.length < l0.length) = false := by simp; omega
  obtain ⟨l, hl⟩ : ∃ l, l = l0.map mk1 := ⟨_, rfl⟩
  have hll : l.length = l0.length := by rw [hl, List.length_map]
  have hok : EnOk l := by rw [hl]; exact enOk_make l0 hwf
  obtain ⟨ms, hms⟩ : ∃ ms, ms = m0.take l0.length := ⟨_, rfl⟩
  have hmsl : ms.length = l0.length := by rw [hms, List.length_take]; omega
  have hwfs : SlOk ms := by rw [hms]; exact fun e he => hwf2 e (List.mem_of_mem_take he)
  obtain ⟨l', hl'⟩ : ∃ l', l' = ms.map mk1 := ⟨_, rfl⟩
  have hll' : l'.length = l0.length := by rw [hl', List.length_map, hmsl]
  have hok' : EnOk l' := by rw [hl']; exact enOk_make ms hwfs
  have hrb' : Rd w B (sls ms) := by
    have h9 := rb.take_ (l0.length * 2)
    rw [show (sls m0).take (l0.length * 2) = sls ms by rw [hms]; exact flat_take slv slv_len m0 l0.length] at h9
    exact h9
  have hmk := fun W (hW : Rd W A (sls l0)) => make_ok A c l0 a n1 W hW (by omega) hwf (by omega)
  have hmk2 := fun W (hW : Rd W B (sls ms)) => make_ok B d ms b n2 W hW (by omega) hwfs (by omega)
  rw [← hl] at hmk
  rw [← hl', hmsl] at hmk2
  have hcut := fun W => cut_lo_ 24 2 (by kernel_rfl) (fun _ => by kernel_rfl) B m0.length d l0.length (l0.length : Int) rfl (by omega) W
  have HRA := Lib.hid ra
  have HRB := Lib.hid hrb'
  have HMK := Lib.hid hmk
  have HMK2 := Lib.hid hmk2
  have HLL := Lib.hid hll
  have HLL' := Lib.hid hll'
  have HOK := Lib.hid hok
  have HOK' := Lib.hid hok'
  have hl20 : l0.length ≤ 20 := by omega
  have hdl : (l0.length : Int) ≤ (d : Int) := by omega
  clear ra rb hm _hm2 hwf hwf2 hlong hshort hl hll hok hms hmsl hwfs hl' hll' hok' hrb' hmk hmk2
  go_enter Try.func3, Try.ntmps3
  go_upto_region 5 with (go_at_call 7; (with_reducible refine HAW.out.mono ?_); rintro e w1 ⟨rfl, hb1⟩; have HB1 := Lib.hid hb1; have HRA1 := Lib.hid (HRA.out.later hb1); have HRB1 := Lib.hid (HRB.out.later hb1); clear hb1)
  go_cut [13, 14] (fun p q wx => Two w wx p q a b ((n1 : Int) - 1) ((n2 : Int) - 1) l0.length l l')
  case first =>
    go_region_held3 (fun _ => True) (exact trivial)
      (first
        | (go_at_call 8; (with_reducible refine (HMK.out _ (HRA1.out.later (by (repeat' (first | (with_reducible exact Below.refl _ _) | (with_reducible exact Nat.le_refl _) | (with_reducible refine Below.drew ?_) | (with_reducible refine Below.alloc ?_ ?_ _) | (simp; done) | (simp; omega)))))).mono ?_); rintro e w2 ⟨v2, rfl, hown2, hb2⟩; have HBa : Hid (Below w1.heap.size w1 w2) := Lib.hid (Below.trans (by (repeat' (first | (with_reducible exact Below.refl _ _) | (with_reducible exact Nat.le_refl _) | (with_reducible refine Below.drew ?_) | (with_reducible refine Below.alloc ?_ ?_ _) | (simp; done) | (simp; omega)))) (hb2.mono (by first | exact Nat.le_refl _ | (simp; done) | (simp; omega)))); have HWa := Lib.hid hb2; obtain ⟨A2, c2, rfl, hr2, -, -⟩ := own_formc hown2; have HR2 := Lib.hid hr2; obtain ⟨B1, hB1⟩ : ∃ B1, w2.ownsRow B1 48 2 (.slice A2 l0.length c2) l0.length (ens l) := ⟨_, hown2⟩; have HO2 := Lib.hid hB1; clear hB1; obtain ⟨hc2, hf2⟩ := bcell_ hb2; (try have hz21 : w1.heap.size < w2.heap.size := by have := HWa.out.size; (try simp at this); omega); (try have hz22 : w1.heap.size + 1 < w2.heap.size := by have := HWa.out.size; (try simp at this); omega); clear hb2 hown2 hr2)
        | (go_at_call 8; (with_reducible refine (HMK2.out _ (HRB1.out.later (by (repeat' (first | (with_reducible exact Below.refl _ _) | (with_reducible exact Nat.le_refl _) | (with_reducible exact HBa.out) | (with_reducible exact HBa.out.size) | (have h9 := HBa.out.size; simp; omega) | (with_reducible refine Below.drew ?_) | (with_reducible refine Below.alloc ?_ ?_ _) | (simp; done) | (simp; omega)))))).mono ?_); rintro e w3 ⟨v3, rfl, hown3, hb3⟩; have HBb : Hid (Below w1.heap.size w1 w3) := Lib.hid (Below.trans (by (repeat' (first | (with_reducible exact Below.refl _ _) | (with_reducible exact Nat.le_refl _) | (with_reducible exact HBa.out) | (with_reducible exact HBa.out.size) | (have h9 := HBa.out.size; simp; omega) | (with_reducible refine Below.drew ?_) | (with_reducible refine Below.alloc ?_ ?_ _) | (simp; done) | (simp; omega)))) (hb3.mono (by first | exact Nat.le_refl _ | (simp; done) | (have := HBa.out.size; simp; omega) | (have := HBa.out.size; omega)))); have HWb := Lib.hid hb3; obtain ⟨A3, c3, rfl, hr3, -, -⟩ := own_formc hown3; have HR3 := Lib.hid hr3; obtain ⟨B2, hB2⟩ : ∃ B2, w3.ownsRow B2 48 2 (.slice A3 l0.length c3) l0.length (ens l') := ⟨_, hown3⟩; have HO3 := Lib.hid hB2; clear hB2; obtain ⟨hc3, hf3⟩ := bcell_ hb3; (try have hz31 : w1.heap.size < w3.heap.size := by have := HWb.out.size; (try simp at this); omega); (try have hz32 : w1.heap.size + 1 < w3.heap.size := by have := HWb.out.size; (try simp at this); omega); (try have hz33 : w2.heap.size < w3.heap.size := by have := HWb.out.size; (try simp at this); omega); (try have hz34 : w2.heap.size + 1 < w3.heap.size := by have := HWb.out.size; (try simp at this); omega); clear hb3 hown3 hr3)
        | fail "no arm")
    all_goals
      go_wp2_with fail
      go_meet
      refine ⟨⟨_, _, A2, A3, c2, c3, rfl, rfl, ?_, ?_, Rd.of_own (base := B1) (e := 48) (size := 2) (n := l0.length) (c := c2) ?_, Rd.of_own (base := B2) (e := 48) (size := 2) (n := l0.length) (c := c3) ?_⟩, HB1.out.trans (Below.mono (B := w1.heap.size) ?_ HB1.out.size)⟩
      all_goals (clear hc2 hf2 hc3 hf3)
      all_goals (repeat' (first
        | (with_reducible exact HO2.out) | (with_reducible exact HO3.out) | (with_reducible exact HBb.out) | (with_reducible exact Nat.le_refl _)
        | ((with_reducible refine Blk.new_ _ _ _ ?_) <;> (simp <;> omega)) | ((with_reducible refine Has3.new ?_) <;> (simp <;> omega))
        | (with_reducible refine Blk.set3e ?_) | (with_reducible refine Blk.far3_ ?_ ?_) | (with_reducible refine Has3.set ?_) | (with_reducible refine own_set3e ?_ ?_ (by decide)) | (with_reducible refine Below.setCell ?_ ?_ _)
        | (with_reducible refine Blk.alloc ?_ _) | (with_reducible refine Has3.alloc ?_ _) | (with_reducible refine World.ownsRow.alloc ?_ _) | (with_reducible refine Below.alloc ?_ ?_ _)
        | (with_reducible refine Has3.drew ?_) | (with_reducible refine Blk.drew ?_)
        | (with_reducible refine Blk.later ?_ HWb.out) | (with_reducible refine Has3.later ?_ HWb.out) | (with_reducible refine ownsRow_later ?_ HWb.out) | (with_reducible refine Blk.later ?_ HWa.out) | (with_reducible refine Has3.later ?_ HWa.out)
        | (with_reducible exact HBa.out.size) | (with_reducible exact HBb.out.size) | omega | (have h9 := HBa.out.size; have h8 := HBb.out.size; simp; done) | (have h9 := HBa.out.size; have h8 := HBb.out.size; simp; omega)))
  case rest =>
    obtain ⟨⟨X, Y, A2, B2, c2, d2', rfl, rfl, hbx, hby, hra2, hrb2⟩, hbel⟩ := hcut
    have henc := fun W A c (hW : Rd W A (ens l)) => encode_ok A c l a n1 0 W hW (by have := HLL.out; omega) hs (by omega) (fun e he => ⟨by have := (HOK.out e he).1; omega, (HOK.out e he).2.1⟩) (by omega)
    have henc2 := fun W A c (hW : Rd W A (ens l')) => encode_ok A c l' b n2 0 W hW (by have := HLL'.out; omega) hs2 (by omega) (fun e he => ⟨by have := (HOK'.out e he).1; omega, (HOK'.out e he).2.1⟩) (by omega)
    rw [Int.toNat_zero, pad_long (Nat.zero_le _), HLL.out] at henc
    rw [Int.toNat_zero, pad_long (Nat.zero_le _), HLL'.out] at henc2
    obtain ⟨sx, hsx⟩ : ∃ sx, sx = sealL (noteL a n1 l) := ⟨_, rfl⟩
    obtain ⟨sy, hsy⟩ : ∃ sy, sy = sealL (noteL b n2 l') := ⟨_, rfl⟩
    obtain ⟨r, hr⟩ : ∃ r, decide (sx = sy) = r := ⟨_, rfl⟩
    have hr2 : decide (((a : Int), (n1 : Int) - 1, l) = ((b : Int), (n2 : Int) - 1, l')) = r := by
      rw [← hr]
      by_cases e : sx = sy
      · obtain ⟨e1, e2, e3⟩ := noteL_inj hs hs2 hn hn2 HOK.out HOK'.out (by rw [HLL.out, HLL'.out]) (by rw [← hsx, ← hsy]; exact e)
        rw [decide_eq_true e, e1, e2, e3]
        exact decide_eq_true rfl
      · rw [decide_eq_false e]
        refine decide_eq_false fun q => e ?_
        injection q with q1 q2
        injection q2 with q2 q3
        rw [hsx, hsy, show a = b by omega, show n1 = n2 by omega, q3]
    have hsxl : sx.length ≤ 10000 := by rw [hsx, sealL_len, noteL_len, HLL.out]; omega
    rw [← hsx] at henc
    rw [← hsy] at henc2
    have heq := fun W A B c d (h1 : Rd W A (byv sx)) (h2 : Rd W B (byv sy)) => equalb_ok A B c d sx sy W h1 h2 (by omega)
    have heq2 := fun W A B c d (h1 : Rd W A (byv sx)) (h2 : Rd W B (byv sx)) => equalb_ok A B c d sx sx W h1 h2 (by omega)
    have hsam := fun W A B c d (h1 : Rd W A (ens l)) (h2 : Rd W B (ens l')) => same_ok a b ((n1 : Int) - 1) ((n2 : Int) - 1) A B c d l l' W h1 h2 (by have := HLL.out; omega)
    rw [hr] at heq
    rw [decide_eq_true rfl] at heq2
    rw [hr2, HLL.out, HLL'.out] at hsam
    have HENC := Lib.hid henc
    have HENC2 := Lib.hid henc2
    have HEQ := Lib.hid heq
    have HEQ2 := Lib.hid heq2
    have HSAM := Lib.hid hsam
    have HTh : Hid (Six6 w wc X Y A2 B2 A #[.int .u64 a, .int .i64 ((n1 : Int) - 1), .slice A2 l0.length c2] #[.int .u64 b, .int .i64 ((n2 : Int) - 1), .slice B2 l0.length d2'] l l' l0) := Lib.hid ⟨hbx, hby, hra2, hrb2, HRA.out.later hbel, hbel⟩
    have HTi : Hid (Six6 w wc.drew X Y A2 B2 A #[.int .u64 a, .int .i64 ((n1 : Int) - 1), .slice A2 l0.length c2] #[.int .u64 b, .int .i64 ((n2 : Int) - 1), .slice B2 l0.length d2'] l l' l0) := Lib.hid (HTh.out.later (below_drewN (Below.refl _ _) 1))
    obtain ⟨h0, h1, h2⟩ := HTh.out.bx.cells3
    obtain ⟨h3, h4, h5⟩ := HTh.out.by_.cells3
    obtain ⟨i0, i1, i2⟩ := HTi.out.bx.cells3
    obtain ⟨i3, i4, i5⟩ := HTi.out.by_.cells3
    clear hbx hby hra2 hrb2 hbel henc henc2 hr2 hsxl hsx hsy hr heq heq2 hsam
    go_wp2
    go_region_held3 (fun w' => w'.cell? ⟨X, 0, none⟩ = some (.int .u64 a) ∧ w'.cell? ⟨X, 1, none⟩ = some (.int .i64 ((n1 : Int) - 1)) ∧ w'.cell? ⟨X, 2, none⟩ = some (.slice A2 l0.length c2) ∧ w'.cell? ⟨Y, 0, none⟩ = some (.int .u64 b) ∧ w'.cell? ⟨Y, 1, none⟩ = some (.int .i64 ((n2 : Int) - 1)) ∧ w'.cell? ⟨Y, 2, none⟩ = some (.slice B2 l0.length d2'))
      (exact ⟨by assumption, by assumption, by assumption, by assumption, by assumption, by assumption⟩)
      (first
        | (go_at_call 10; (with_reducible refine (HENC.out _ _ _ HTi.out.ra).mono ?_); rintro e wj ⟨⟨Aj, cj, rfl, hrj, hcj⟩, hbj⟩; have HTj := Lib.hid (HTi.out.later hbj); have HRj := Lib.hid hrj; clear hrj; clear hbj; obtain ⟨j0, j1, j2⟩ := HTj.out.bx.cells3; obtain ⟨j3, j4, j5⟩ := HTj.out.by_.cells3)
        | (go_at_call 10; (with_reducible refine (HENC2.out _ _ _ HTj.out.rb).mono ?_); rintro e wk ⟨⟨Ak, ck, rfl, hrk, hck⟩, hbk⟩; have HTk := Lib.hid (HTj.out.later hbk); have HRk := Lib.hid hrk; have HRjk := Lib.hid (HRj.out.later hbk); clear hrk; clear hbk; obtain ⟨k0, k1, k2⟩ := HTk.out.bx.cells3; obtain ⟨k3, k4, k5⟩ := HTk.out.by_.cells3)
        | (go_at_call 9; (with_reducible refine (HEQ.out _ _ _ _ _ HRjk.out HRk.out).mono ?_); rintro e wl ⟨rfl, nl, hwl⟩; subst wl; have HTl := Lib.hid (HTk.out.later (below_drewN (Below.refl _ _) nl)); obtain ⟨l0, l1, l2⟩ := HTl.out.bx.cells3; obtain ⟨l3, l4, l5⟩ := HTl.out.by_.cells3)
        | (go_at_call 11; (with_reducible refine (HSAM.out _ _ _ _ _ HTl.out.ra HTl.out.rb).mono ?_); rintro e wm ⟨rfl, hbm⟩; have HTm := Lib.hid (HTl.out.later hbm); clear hbm; obtain ⟨m0, m1, m2⟩ := HTm.out.bx.cells3; obtain ⟨m3, m4, m5⟩ := HTm.out.by_.cells3)
        | (go_at_call 10; (with_reducible refine (HENC.out _ _ _ HTm.out.ra).mono ?_); rintro e wn ⟨⟨An, cn, rfl, hrn, hcn⟩, hbn⟩; have HTn := Lib.hid (HTm.out.later hbn); have HRn := Lib.hid hrn; clear hrn; clear hbn; obtain ⟨n0, n1, n2⟩ := HTn.out.bx.cells3; obtain ⟨n3, n4, n5⟩ := HTn.out.by_.cells3)
        | (go_at_call 8; (with_reducible refine (HMK.out _ HTn.out.rs).mono ?_); rintro e wo ⟨vo, rfl, howno, hbo⟩; obtain ⟨Ao, co, rfl, hro, -, -⟩ := own_formc howno; have HTo := Lib.hid (HTn.out.later hbo); have HRo := Lib.hid hro; have HRno := Lib.hid (HRn.out.later hbo); clear howno hbo hro; obtain ⟨o0, o1, o2⟩ := HTo.out.bx.cells3; obtain ⟨o3, o4, o5⟩ := HTo.out.by_.cells3)
        | (go_at_call 10; (with_reducible refine (HENC.out _ _ _ HRo.out).mono ?_); rintro e wp ⟨⟨Ap, cp, rfl, hrp, hcp⟩, hbp⟩; have HTp := Lib.hid (HTo.out.later hbp); have HRp := Lib.hid hrp; have HRnp := Lib.hid (HRno.out.later hbp); clear hrp hbp; obtain ⟨p0, p1, p2⟩ := HTp.out.bx.cells3; obtain ⟨p3, p4, p5⟩ := HTp.out.by_.cells3)
        | (go_at_call 9; (with_reducible refine (HEQ2.out _ _ _ _ _ HRnp.out HRp.out).mono ?_); rintro e wq ⟨rfl, nq, hwq⟩; subst wq; have HTq := Lib.hid (HTp.out.later (below_drewN (Below.refl _ _) nq)); obtain ⟨q0, q1, q2⟩ := HTq.out.bx.cells3; obtain ⟨q3, q4, q5⟩ := HTq.out.by_.cells3)
        | fail "no arm")
    go_wp2
    go_ret
    exact ⟨rfl, HTq.out.bel⟩
theorem noteApart_true (a b c d : Int) (A : Option Addr) (len cap : Nat) (B : Option Addr) (len2 cap2 : Nat) (w : World) (ha : (Lit.int .u64 a).wf = true) (hb : (Lit.int .u64 b).wf = true) (hc : (Lit.int .u16 c).wf = true) (hd : (Lit.int .u16 d).wf = true)
    (h : len ≤ maxLen ∧ ∀ i, i < len → ∃ x, A = some x ∧ ∃ (c0 : Int) (c1 : Int), w.cell? (x.add (i * 2 + 0)) = some (.int .u8 c0) ∧ w.cell? (x.add (i * 2 + 1)) = some (.int .u32 c1) ∧ (Lit.int .u8 c0).wf = true ∧ (Lit.int .u32 c1).wf = true)
    (h2 : len2 ≤ maxLen ∧ ∀ i, i < len2 → ∃ x, B = some x ∧ ∃ (c0 : Int) (c1 : Int), w.cell? (x.add (i * 2 + 0)) = some (.int .u8 c0) ∧ w.cell? (x.add (i * 2 + 1)) = some (.int .u32 c1) ∧ (Lit.int .u8 c0).wf = true ∧ (Lit.int .u32 c1).wf = true) (hcap2 : len2 ≤ cap2) :
    Calls Try.prog 3 #[.int .u64 a, .int .u64 b, .int .u16 c, .int .u16 d, .slice A len cap, .slice B len2 cap2] w fun e w' => e = .returned (.bool true) ∧ Below w.heap.size w w' := by
  obtain ⟨l, rfl, ra, hwf⟩ := argS_of h
  obtain ⟨m, rfl, rb, hwf2⟩ := argS_of h2
  have h1 := u64_in_ ha
  have h3 := u64_in_ hb
  have h4 := u16_in_ hc
  have h5 := u16_in_ hd
  obtain ⟨a, rfl⟩ := Int.eq_ofNat_of_zero_le h1.1
  obtain ⟨b, rfl⟩ := Int.eq_ofNat_of_zero_le h3.1
  obtain ⟨c, rfl⟩ := Int.eq_ofNat_of_zero_le h4.1
  obtain ⟨d, rfl⟩ := Int.eq_ofNat_of_zero_le h5.1
  exact apart_walk A B cap cap2 l m a b c d w ra rb (by have := h.1; unfold maxLen at this; omega) (by have := h2.1; unfold maxLen at this; omega) hcap2 hwf hwf2 (by omega) (by omega) (by omega) (by omega)
end Go.Proofs.Ytbokddacobohnaa
