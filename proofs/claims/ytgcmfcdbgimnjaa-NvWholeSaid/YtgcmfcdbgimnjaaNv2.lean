/- The walks of own, Append, Records. No further condition. -/
import Derived.Test.YtgcmfcdbgimnjaaNv
import Derived.Deep.RegionLaw
namespace Go.Proofs.Ytgcmfcdbgimnjaa
open Go.RowKit
attribute [local go_sem ↓] Go.wp_at_zero Go.wp_at_succ

theorem ofc {w : World} {base : Nat} {e : TypeId} {size n : Nat} {v : Value} {xs : List Value} (k : w.ownsRow base e size v n xs) : ∃ A c, v = .slice A n c ∧ Rd w A xs ∧ n ≤ c ∧ ∀ ad, A = some ad → base ≤ ad.block := by
  rcases k.2 with ⟨rfl, rfl⟩ | ⟨g, cap, cur, rfl, h4, _, h5, _⟩
  · exact ⟨none, 0, rfl, Rd.of_own k, Nat.le_refl _, fun _ e => by cases e⟩
  · exact ⟨some ⟨g, 0, none⟩, cap, rfl, Rd.of_own k, h5, fun _ e => by injection e with e; subst e; exact h4⟩
theorem own_base {w : World} {b b' : Nat} {e : TypeId} {size n : Nat} {v : Value} {xs : List Value} (k : w.ownsRow b e size v n xs) (h : b' ≤ b) : w.ownsRow b' e size v n xs := by
  refine ⟨k.1, ?_⟩
  rcases k.2 with h1 | ⟨g, cap, cur, e1, hb, r⟩
  · exact .inl h1
  · exact .inr ⟨g, cap, cur, e1, Nat.le_trans h hb, r⟩
theorem set4 {w : World} {g : Nat} {a b c d x y z u : Value} (k : Blk w g 45 #[x, y, z, u]) : Blk ((((w.setCell ⟨g, 0, none⟩ a).setCell ⟨g, 1, none⟩ b).setCell ⟨g, 2, none⟩ c).setCell ⟨g, 3, none⟩ d) g 45 #[a, b, c, d] ∧ Fr (· = g) w ((((w.setCell ⟨g, 0, none⟩ a).setCell ⟨g, 1, none⟩ b).setCell ⟨g, 2, none⟩ c).setCell ⟨g, 3, none⟩ d) := by
  refine ⟨?_, Fr.setCell (Fr.setCell (Fr.setCell (Fr.setCell (Fr.refl (· = g) w) (p := ⟨g, 0, none⟩) (.inl rfl) _) (p := ⟨g, 1, none⟩) (.inl rfl) _) (p := ⟨g, 2, none⟩) (.inl rfl) _) (p := ⟨g, 3, none⟩) (.inl rfl) _⟩
  have h9 := (((k.set_ 0 a).set_ 1 b).set_ 2 c).set_ 3 d
  simp only [List.setIfInBounds_toArray, List.set_cons_succ, List.set_cons_zero] at h9
  exact h9
/-- A record, its bytes' slice given by hand. -/
def rcAgg (x : Rc) (v : Value) : Value := .agg #[.int .u64 x.seq, .int .i64 x.kind, .int .i64 x.lba, v]
set_option maxRecDepth 100000 in
set_option maxHeartbeats 3200000 in
theorem ownrec_ok (x : Rc) (w : World) (hr : Rd w x.A (byv x.raw)) (hx : x.raw.length ≤ 1000000) :
    Calls Try.prog 26 #[rcAgg x (.slice x.A x.raw.length x.c)] w fun e w' => ∃ A c, e = .returned (rcAgg x (.slice A x.raw.length c)) ∧ w'.ownsRow w.heap.size 5 1 (.slice A x.raw.length c) x.raw.length (byv x.raw) ∧ Below w.heap.size w w' := by
  obtain ⟨q, kd, lb, A0, raw, c0⟩ := x
  unfold rcAgg
  simp only at hr hx ⊢
  have hb1 := (Below.refl w.heap.size w).alloc (Nat.le_refl _) (.cells #[.int .u64 q, .int .i64 kd, .int .i64 lb, .slice A0 raw.length c0] 45)
  have hb2 := hb1.alloc (by simp) (.cells #[.int .u64 0, .int .i64 0, .int .i64 0, .slice none 0 0] 45)
  have hX := (Blk.new w 45 #[.int .u64 q, .int .i64 kd, .int .i64 lb, .slice A0 raw.length c0]).alloc (.cells #[.int .u64 0, .int .i64 0, .int .i64 0, .slice none 0 0] 45)
  have hR := Blk.new_ (w.alloc (.cells #[.int .u64 q, .int .i64 kd, .int .i64 lb, .slice A0 raw.length c0] 45)) 45 #[.int .u64 0, .int .i64 0, .int .i64 0, .slice none 0 0] (n := w.heap.size + 1) (by simp)
  have hcl := cloneb_ok A0 c0 raw _ (hr.later hb2) (by omega)
  have HCL := Lib.hid hcl
  have HB := Lib.hid hb2
  have HX := Lib.hid hX
  have HR := Lib.hid hR
  have x3 := hX.at_ (i := 3) (u := .slice A0 raw.length c0) rfl
  clear hb1 hb2 hX hR hcl hr
  go_enter Try.func26, Try.ntmps26
  go_wp2_with (go_at_call 15; (with_reducible refine HCL.out.mono ?_); rintro e w1 ⟨r1, rfl, hown, hbl⟩; have HB1 := Lib.hid (HB.out.trans (hbl.mono HB.out.size)); have HX1 := Lib.hid (HX.out.later hbl); have HR1 := Lib.hid (HR.out.later hbl); have HO1 := Lib.hid (own_base hown (b' := w.heap.size) (by simp; omega)); obtain ⟨A1, c1, rfl, -, -, -⟩ := ofc hown; clear hown hbl; have y0 := HX1.out.at_ (i := 0) (u := .int .u64 q) rfl; have y1 := HX1.out.at_ (i := 1) (u := .int .i64 kd) rfl; have y2 := HX1.out.at_ (i := 2) (u := .int .i64 lb) rfl; have y3 := HX1.out.at_ (i := 3) (u := .slice A0 raw.length c0) rfl; have fz := HX1.out.frozen 3; have fr := fun i => HR1.out.frozen i; have z0 := HR1.out.at_ (i := 0) (u := .int .u64 0) rfl; have z1 := HR1.out.at_ (i := 1) (u := .int .i64 0) rfl; have z2 := HR1.out.at_ (i := 2) (u := .int .i64 0) rfl; have z3 := HR1.out.at_ (i := 3) (u := .slice none 0 0) rfl)
  have h4 := set4 (a := .int .u64 q) (b := .int .i64 kd) (c := .int .i64 lb) (d := .slice A1 raw.length c1) (HR1.out.far (p := ⟨w.heap.size, 3, none⟩) (by show w.heap.size + 1 ≠ w.heap.size; omega) (.slice A1 raw.length c1))
  have hf : Fr (fun b => b = w.heap.size ∨ b = w.heap.size + 1) w1 _ := (((Fr.refl (fun b => b = w.heap.size ∨ b = w.heap.size + 1) w1).setCell (p := ⟨w.heap.size, 3, none⟩) (.inl (.inl rfl)) (.slice A1 raw.length c1)).trans (h4.2.mono fun b _ e => .inr e) fun _ _ e => e)
  (try simp only [Exit.inBlock, Exit.then])
  refine bodyPost_ret (results_cell_row rfl _ _ (w.heap.size + 1) 45 _ (0, 0) _ rfl h4.1 Try.underlying45 rfl (by kernel_rfl)) rfl ⟨A1, c1, rfl, ownsRow_fr HO1.out hf ?_, HB1.out.trans (hf.toBelow HB1.out.size ?_)⟩
  · rintro b hb (e | e)
    · exact own_blk_ne HO1.out HX1.out (by decide) (by rw [hb, e])
    · exact own_blk_ne HO1.out HR1.out (by decide) (by rw [hb, e])
  · rintro b hb (e | e) <;> omega
/-- What a change of the memory leaves. -/
structure NvTo (w w' : World) (B g h : Nat) (v : Value) (used limit : Int) (v' : Value) (l : List Rc) (next : Int) (r : Rt) : Prop where
  nv : NvS w' B g h used limit v' l next r
  fr : Fr (fun b => b = g ∨ b = h ∨ v.ownBlock = some b) w w'
  row : v'.ownBlock = v.ownBlock ∨ ∃ b, v'.ownBlock = some b ∧ w.heap.size ≤ b
/-- The memory has one more record. -/
theorem NvS.push {w W W2 : World} {B g h : Nat} {used limit next : Int} {v v2 : Value} {l : List Rc} {r : Rt} (k : NvS w B g h used limit v l next r) (hb : Below w.heap.size w W) (hB : B ≤ w.heap.size) (x : Rc) (hx : W.ownsRow w.heap.size 5 1 (.slice x.A x.raw.length x.c) x.raw.length (byv x.raw))
    (hg : W.grownBy W2 v.ownBlock) (ho : W2.ownsRow B 45 4 v2 (l.length + 1) (rcs l ++ rcv x)) :
    NvS (W2.setCell ⟨g, 1, none⟩ v2) B g h used limit v2 (l ++ [x]) next r ∧ W2.cell? ⟨g, 1, none⟩ = some v ∧ W2.frozen? ⟨g, 1, none⟩ = false ∧ W2.cell? ⟨g, 2, none⟩ = some (.int .u64 next) := by
  have k' := k.later hb
  have hgb : Blk W2 g 58 (nva h v next r) := k'.own.grown hg (fun e => k'.rowg e.symm)
  have hhb : Blk W2 h 60 #[.int .i64 used, .int .i64 limit] := k'.pw.grown hg (fun e => k'.rowh e.symm)
  have f2 : Fr (· = g) W2 (W2.setCell ⟨g, 1, none⟩ v2) := (Fr.refl (· = g) W2).setCell (p := ⟨g, 1, none⟩) (.inl rfl) v2
  have fg : Fr (fun b => v.ownBlock = some b) W W2 := Fr.of_grown hg
  rw [← rcs_snoc] at ho
  have hset : Blk (W2.setCell ⟨g, 1, none⟩ v2) g 58 (nva h v2 next r) := by
    have h9 := hgb.set_ 1 v2
    simp only [nva, List.setIfInBounds_toArray, List.set_cons_succ, List.set_cons_zero] at h9 ⊢
    exact h9
  have hdat : ∀ y : Rc, W.ownsRow B 5 1 (.slice y.A y.raw.length y.c) y.raw.length (byv y.raw) → (W2.setCell ⟨g, 1, none⟩ v2).ownsRow B 5 1 (.slice y.A y.raw.length y.c) y.raw.length (byv y.raw) := fun y hy => by
    have h1 := ownsRow_fr hy fg fun b hb e => own_own_ne k'.row hy (by decide) b e hb
    exact ownsRow_fr h1 f2 fun b hb e => own_blk_ne h1 hgb (by decide) (by rw [hb, e])
  refine ⟨⟨hset, hhb.far (p := ⟨g, 1, none⟩) (fun e => k.ne e.symm) v2, ?_, ?_⟩, hgb.at_ rfl, hgb.frozen 1, hgb.at_ rfl⟩
  · rw [List.length_append]
    exact ownsRow_fr ho f2 fun b hb e => own_blk_ne ho hgb (by decide) (by rw [hb, e])
  · intro y hy
    rcases List.mem_append.1 hy with hy | hy
    · exact hdat y (k'.data y hy)
    · simp at hy
      subst hy
      exact hdat y (own_base hx hB)
theorem nvfull_ok (B g h : Nat) (used limit : Int) (v : Value) (l : List Rc) (next : Int) (r : Rt) (kd lb : Int) (u : Value) (w : World) (k : NvS w B g h used limit v l next r) (_hl : l.length ≤ 1000000) (hf : r.n ≤ l.length) :
    Calls Try.prog 12 #[.pointer (some ⟨g, 0, none⟩), .int .i64 kd, .int .i64 lb, u] w fun e w' => e = .returned (.int .i64 7) ∧ ∃ n, w' = w.drewN n := by
  obtain ⟨A, c, rfl, -, -⟩ := own_form k.row
  have c1 := k.c 1 (.slice A l.length c) rfl
  have c7 := k.c 7 (.int .i64 r.n) rfl
  have d1 : decide (r.n ≤ (l.length : Int)) = true := by simpa using hf
  clear k hf
  go_enter Try.func12, Try.ntmps12
  go_wp2
  go_quiet (fail)
  go_wp2
  go_ret
  exact ⟨rfl, _, rfl⟩
theorem rd_fr_raw {w w' : World} {A : Option Addr} {raw : List Int} {S : Nat → Prop} (k : Rd w A (byv raw)) (f : Fr S w w') (hA : ∀ ad, A = some ad → raw ≠ [] → ¬ S ad.block) : Rd w' A (byv raw) := by
  by_cases e : raw = []
  · subst e
    exact Rd.nil _ _
  · exact k.fr f fun ad h => hA ad h e
set_option maxRecDepth 100000 in
set_option maxHeartbeats 12800000 in
theorem nvappend_ok (B g h : Nat) (used limit : Int) (v : Value) (l : List Rc) (next : Int) (r : Rt) (kd lb : Int) (A0 : Option Addr) (raw : List Int) (c0 : Nat) (w : World) (k : NvS w B g h used limit v l next r) (hr : Rd w A0 (byv raw)) (hraw : raw.length ≤ 100000) (hl : l.length ≤ 100000) (hf : (l.length : Int) < r.n) (hB : B ≤ w.heap.size)
    (htl : limit < 0 ∨ used < limit) (hu : -9223372036854775808 ≤ used) (hu2 : used < 9223372036854775807) (n0 : 0 ≤ next) (n1 : next < 9223372036854775807) (hA : ∀ ad, A0 = some ad → raw ≠ [] → ad.block ≠ h) :
    Calls Try.prog 12 #[.pointer (some ⟨g, 0, none⟩), .int .i64 kd, .int .i64 lb, .slice A0 raw.length c0] w fun e w' => e = .returned (.int .i64 0) ∧ ∃ x v', x.con = (next, kd, lb, raw) ∧ (∀ ad, x.A = some ad → w.heap.size ≤ ad.block) ∧ NvTo w w' B g h v (used + 1) limit v' (l ++ [x]) (next + 1) r := by
  obtain ⟨i0, hi0, hz0, hz1, hz2⟩ := info_parts (show (Try.prog.info? 45).map (fun i => (i.zero, i.size, i.bytes)) = some (some (.agg #[.int .u64 0, .int .i64 0, .int .i64 0, .slice none 0 0]), 4, 48) by kernel_rfl)
  obtain ⟨A, c, rfl, -, -⟩ := own_form k.row
  have c1 := k.c 1 (.slice A l.length c) rfl
  have c7 := k.c 7 (.int .i64 r.n) rfl
  have d1 : decide (r.n ≤ (l.length : Int)) = false := decide_eq_false (by omega)
  have HK := Lib.hid k
  have HR := Lib.hid hr
  have hpc := fun n => (k.later (below_drewN (Below.refl w.heap.size w) n)).c 0 (.pointer (some ⟨h, 0, none⟩)) rfl
  have htk := fun n => tick_ok h used limit _ (k.later (below_drewN (Below.refl w.heap.size w) n)).pw htl hu hu2
  have HTK := Lib.hid htk
  clear k hf hr htk htl
  go_enter Try.func12, Try.ntmps12
  go_wp2
  go_quiet (fail)
  go_upto_region 4 with (go_at_call 23; (with_reducible refine (HTK.out _).mono ?_); rintro e w1 ⟨rfl, hp1, hf1⟩; have HK1 := Lib.hid ((HK.out.later (below_drewN (Below.refl w.heap.size w) nq)).power hp1 hf1); have HR1 := Lib.hid (rd_fr_raw (HR.out.later (below_drewN (Below.refl w.heap.size w) nq)) hf1 hA))
  have hsz1 : w.heap.size ≤ w1.heap.size := hf1.size
  have HF1 : Hid (Fr (fun b => b = g ∨ b = h ∨ (Value.slice A l.length c).ownBlock = some b) w w1) := Lib.hid (((Fr.refl _ w).drewN nq).trans (hf1.mono fun b _ e => .inr (.inl e)) fun _ _ e => e)
  have hbd := below_drewN (Below.refl w1.heap.size w1) 1
  have HKd : Hid (NvS w1.drew B g h (used + 1) limit (.slice A l.length c) l next r) := Lib.hid (HK1.out.later hbd)
  have e1 := HKd.out.c 1 (.slice A l.length c) rfl
  have e2 := HKd.out.c 2 (.int .u64 next) rfl
  have HOW := Lib.hid (ownrec_ok ⟨next, kd, lb, A0, raw, c0⟩ w1.drew (HR1.out.later hbd) (by show raw.length ≤ 1000000; omega))
  
  clear hf1 hp1 hpc c1 c7 d1 hbd
  unfold rcAgg at HOW
  go_cut [] (fun wx => ∃ x v', x.con = (next, kd, lb, raw) ∧ (∀ ad, x.A = some ad → w.heap.size ≤ ad.block) ∧ NvTo w wx B g h (.slice A l.length c) (used + 1) limit v' (l ++ [x]) next r)
  case first =>
    go_region_law
      (first
        | (go_simp; go_at_call 26; (with_reducible refine HOW.out.mono ?_); rintro e w2 ⟨A2, c2, rfl, hx2, hb2⟩; have HXA : Hid (∀ ad, A2 = some ad → w.heap.size ≤ ad.block) := Lib.hid (fun ad e => by obtain ⟨_, _, e9, _, _, h9⟩ := ofc hx2; injection e9 with e9; have := h9 ad (e9 ▸ e); have h8 : w1.drew.heap.size = w1.heap.size := rfl; omega); have HX2 := Lib.hid (ownsRow_later hx2 ((Below.refl w2.heap.size w2).alloc (Nat.le_refl _) (.cells #[.int .u64 next, .int .i64 kd, .int .i64 lb, .slice A2 raw.length c2] 45))); have HB2 := Lib.hid hb2; have HBa : Hid (Below w1.drew.heap.size w1.drew (w2.alloc (.cells #[.int .u64 next, .int .i64 kd, .int .i64 lb, .slice A2 raw.length c2] 45))) := Lib.hid (hb2.alloc hb2.size _); have k2 := HKd.out.later hb2; have k2a := k2.later ((Below.refl w2.heap.size w2).alloc (Nat.le_refl _) (.cells #[.int .u64 next, .int .i64 kd, .int .i64 lb, .slice A2 raw.length c2] 45)); have HRO := Lib.hid k2a.row; have f1 := k2.c 1 (.slice A l.length c) rfl; have f2 := k2a.c 1 (.slice A l.length c) rfl; have HNW := Lib.hid (Blk.new w2 45 #[.int .u64 next, .int .i64 kd, .int .i64 lb, .slice A2 raw.length c2]); clear hx2 hb2 k2 k2a)
        | (refine step_append_any _ (by rfl) _ _ 42 (by rfl) B 45 i0 _ 4 48 Try.underlying42 hi0 hz0 hz1 hz2 rfl (by decide) (.slice A l.length c) l.length (rcs l) (by rfl) HRO.out (some ⟨w2.heap.size, 0, none⟩) 1 1 (rcv ⟨next, kd, lb, A2, raw, c2⟩) (by rfl) rfl (Rd.blk_all (xs := rcv ⟨next, kd, lb, A2, raw, c2⟩) HNW.out) (rcv_one _) (by unfold maxLen; omega) (by omega) (by have h8 := HBa.out.size; have h7 : w1.drew.heap.size = w1.heap.size := rfl; omega) ?_; intro v3 w3 hown3 hg3 hat3; have hp := HKd.out.push HBa.out (by have h7 : w1.drew.heap.size = w1.heap.size := rfl; omega) ⟨next, kd, lb, A2, raw, c2⟩ HX2.out hg3 hown3; obtain ⟨hp1, q1, q2, q3⟩ := hp; have HP := Lib.hid hp1; have HG3 := Lib.hid hg3; have HAT := Lib.hid hat3; obtain ⟨A3, c3, rfl, -, -⟩ := own_form hown3; clear hp1 hg3 hat3 hown3)
        | fail "no")
    all_goals
      go_wp2_with fail
      go_meet
      refine ⟨⟨next, kd, lb, A2, raw, c2⟩, _, rfl, HXA.out, HP.out, (((HF1.out.drew).later HBa.out).grown HG3.out (fun b hb => .inl (.inr (.inr hb)))).setCell (.inl (.inl rfl)) _, ?_⟩
      rcases HAT.out with e | e
      · exact .inl e
      · exact .inr ⟨_, e, by have h8 := HBa.out.size; simp at h8 ⊢; omega⟩
  case rest =>
    obtain ⟨x, v', hx, hxa, hN⟩ := hcut
    have HXA := Lib.hid hxa
    clear hxa
    have HN := Lib.hid hN
    have q2 := hN.nv.c 2 (.int .u64 next) rfl
    have qf := hN.nv.own.frozen 2
    have hw1' : IntKind.u64.wrap (next + 1) = next + 1 := by rw [IntKind.wrap_u64]; omega
    have hset : Blk (wc.setCell ⟨g, 2, none⟩ (.int .u64 (next + 1))) g 58 (nva h v' (next + 1) r) := by
      have h9 := hN.nv.own.set_ 2 (.int .u64 (next + 1))
      simp only [nva, List.setIfInBounds_toArray, List.set_cons_succ, List.set_cons_zero] at h9 ⊢
      exact h9
    have f2 : Fr (· = g) wc (wc.setCell ⟨g, 2, none⟩ (.int .u64 (next + 1))) := (Fr.refl (· = g) wc).setCell (p := ⟨g, 2, none⟩) (.inl rfl) _
    have HE := Lib.hid (show NvTo w (wc.setCell ⟨g, 2, none⟩ (.int .u64 (next + 1))) B g h (.slice A l.length c) (used + 1) limit v' (l ++ [x]) (next + 1) r from ⟨hN.nv.self hset f2, hN.fr.trans (f2.mono fun b _ e => .inl e) fun _ _ e => e, hN.row⟩)
    have HX := Lib.hid hx
    clear hN hset f2 hx HKd HK1 HR1 HF1 HOW e1 e2 HK HTK
    go_wp2
    go_ret
    exact ⟨rfl, x, v', HX.out, HXA.out, HE.out⟩
end Go.Proofs.Ytgcmfcdbgimnjaa
