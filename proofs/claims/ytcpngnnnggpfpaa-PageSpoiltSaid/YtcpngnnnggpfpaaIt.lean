/- The law's tells: an image's pages. No further condition. -/
import Derived.Test.YtcpngnnnggpfpaaBw
import Derived.Test.YtcpngnnnggpfpaaIf
namespace Go.Proofs.Ytcpngnnnggpfpaa
open Go.RowKit
attribute [local go_sem ↓] Go.wp_at_zero Go.wp_at_succ

/-- The shape's block, the image's. -/
structure Dt (w0 w : World) (x : Sh) (im : Array Value) : Prop where
  sh : Blk w w0.heap.size 23 (shA x)
  im : Blk w (w0.heap.size + 1) 28 im
  bel : Below w0.heap.size w0 w
section
variable {w0 w w' : World} {x : Sh} {im : Array Value}
theorem Dt.later (k : Dt w0 w x im) (hb : Below w.heap.size w w') : Dt w0 w' x im := ⟨k.sh.later hb, k.im.later hb, k.bel.trans (hb.mono k.bel.size)⟩
theorem Dt.start (w : World) (x : Sh) (im : Array Value) : Dt w ((w.alloc (.cells (shA x) 23)).alloc (.cells im 28)) x im :=
  ⟨(Blk.new w 23 _).alloc _, Blk.new_ _ _ _ (by simp), ((Below.refl _ _).alloc (Nat.le_refl _) _).alloc (by simp) _⟩
theorem Dt.grown {A : Option Addr} {c n : Nat} {xs : List Int} (k : Dt w0 w x im) (hr : Bn w0 w A c n xs) (hg : w.grownBy w' (Value.slice A n c).ownBlock) : Dt w0 w' x im :=
  ⟨k.sh.grown hg (fun e => own_blk_ne hr.row k.sh (by decide) e.symm), k.im.grown hg (fun e => own_blk_ne hr.row k.im (by decide) e.symm), k.bel.grown hg k.bel.size fun b hb => (hr.row.lt b hb).1⟩
end
/-- Rows of bytes, each in a block of its own, in a row of the call's own. -/
structure Ap (w0 w : World) (v : Value) (l : List Sc) : Prop where
  al : Al w0 w v l
  ne : l.Pairwise fun s t => ∀ a b, s.A = some a → t.A = some b → a.block ≠ b.block
  at0 : ∀ s ∈ l, ∀ a, s.A = some a → a.off = 0 ∧ a.spot = none
theorem Ap.nil (w : World) : Ap w w (.slice none 0 0) [] := ⟨Al.nil w, .nil, fun s hs => by simp at hs⟩
theorem Ap.later {w0 w w' : World} {v : Value} {l : List Sc} (k : Ap w0 w v l) (h : Below w.heap.size w w') : Ap w0 w' v l := ⟨k.al.later h, k.ne, k.at0⟩
theorem Ap.push {w0 w w' u : World} {v v' : Value} {l : List Sc} {s : Sc} (k : Ap w0 w v l) (ks : Ow w0 w s) (hf : ∀ a, s.A = some a → u.heap.size ≤ a.block) (h0 : ∀ a, s.A = some a → a.off = 0 ∧ a.spot = none) (ku : Ap w0 u v l) (hg : w.grownBy w' v.ownBlock) (ho : w'.ownsRow w0.heap.size 47 1 v' (l.length + 1) (scs l ++ scs [s])) : Ap w0 w' v' (l ++ [s]) := by
  refine ⟨k.al.push ks hg ho, List.pairwise_append.2 ⟨k.ne, List.pairwise_singleton _ _, ?_⟩, ?_⟩
  · intro t ht s' hs' a b ha hb e
    simp at hs'
    subst hs'
    have h1 := hf b hb
    obtain ⟨⟨cur, h2⟩, -⟩ := (ku.al.each t ht).own a ha
    have := h2.lt
    omega
  · intro t ht
    rcases List.mem_append.1 ht with ht | ht
    · exact k.at0 t ht
    · simp at ht
      subst ht
      exact h0
theorem Ap.base {w0 w1 w : World} {v : Value} {l : List Sc} (k : Ap w1 w v l) (hb : Below w0.heap.size w0 w1) : Ap w0 w v l :=
  ⟨⟨ownsRow_base k.al.row hb.size, fun s hs => ⟨(k.al.each s hs).len, (k.al.each s hs).rd, fun ad e => ⟨((k.al.each s hs).own ad e).1, Nat.le_trans hb.size ((k.al.each s hs).own ad e).2⟩⟩, hb.trans (k.al.bel.mono hb.size)⟩, k.ne, k.at0⟩
theorem own_at0 {w : World} {base : Nat} {e : TypeId} {size n c : Nat} {A : Option Addr} {xs : List Value} (k : w.ownsRow base e size (.slice A n c) n xs) : ∀ a, A = some a → a.off = 0 ∧ a.spot = none := by
  rintro a rfl
  rcases k.2 with ⟨e2, _⟩ | ⟨g, cap, cur, e2, _⟩
  · injection e2 with e2
    cases e2
  · injection e2 with e2
    injection e2 with e2
    subst e2
    exact ⟨rfl, rfl⟩
attribute [local go_sem] go_max2 go_min2 go_max_two go_min_two
set_option maxRecDepth 100000 in
set_option maxHeartbeats 25600000 in
theorem tells_ok (x : Sh) (gen : Nat) (y : Pic) (A B : Option Addr) (c d T P g : Nat) (w : World) (hg : Gd x T P g) (hgen : gen < 18446744073709551616) (hP : P ≤ 1000) (ho : OkPic y) (hT : (picL y).length = T) (hT2 : T ≤ 100000) (ra : Rd w A (sgs y.cs)) (rb : Rd w B (mps y.mp)) :
    Calls Try.prog 14 #[.agg (shA x), .int .u64 gen, .agg #[.int .u64 y.sq, .int .i64 ((y.sg : Int) - 1), .int .i64 y.ix, .slice A y.cs.length c, .slice B y.mp.length d]] w fun e w' => (∃ v l, e = .returned v ∧ rws l = pgsL gen g (picL y) P ∧ Ap w w' v l) := by
  obtain ⟨sq, sg, ix, cs, mp⟩ := y
  obtain ⟨h1, h2, h3, h4, h5, h6, h7⟩ := ho
  simp only at h1 h2 h3 h4 h5 h6 h7 ra rb ⊢
  have HRA := Lib.hid ra
  have HRB := Lib.hid rb
  have HC := Lib.hid h4
  have HM := Lib.hid h5
  have HG := Lib.hid hg
  have HT := Lib.hid hT
  have HD0 := Lib.hid (Dt.start w x #[.int .u64 sq, .int .i64 ((sg : Int) - 1), .int .i64 ix, .slice A cs.length c, .slice B mp.length d])
  have e1 : IntKind.i64.wrap (sg : Int) = sg := IntWalk.i64_in _ (by omega)
  have e2 : IntKind.u64.wrap (sg : Int) = sg := by rw [IntKind.wrap_u64]; omega
  have e3 : IntKind.u64.wrap (ix : Int) = ix := by rw [IntKind.wrap_u64]; omega
  clear ra rb h4 h5 hg hT
  go_enter Try.func14, Try.ntmps14
  go_upto_region 1 with fail
  unfold shA at HD0
  generalize (w.alloc (.cells #[.int .i64 x.m, .int .i64 x.b, .int .i64 x.s, .int .i64 x.t, .int .i64 x.n, .int .i64 x.l] 23)).alloc (.cells #[.int .u64 sq, .int .i64 ((sg : Int) - 1), .int .i64 ix, .slice A cs.length c, .slice B mp.length d] 28) = W0 at HD0 ⊢
  have HD1 : Hid (Dt w W0.drew x _) := Lib.hid (HD0.out.later (below_drewN (Below.refl _ _) 1))
  obtain ⟨z0, z1, z2, -, -⟩ := HD0.out.im.cells5
  obtain ⟨y0, y1, y2, -, -⟩ := HD1.out.im.cells5
  go_region_held3 (fun w' => w'.cell? ⟨w.heap.size + 1, 0, none⟩ = some (.int .u64 sq) ∧ w'.cell? ⟨w.heap.size + 1, 1, none⟩ = some (.int .i64 ((sg : Int) - 1)) ∧ w'.cell? ⟨w.heap.size + 1, 2, none⟩ = some (.int .i64 ix))
    (first | exact ⟨by assumption, by assumption, by assumption⟩ | go_keep)
    (first
      | (go_at_call 37; (with_reducible refine (lputB (w0 := w) 8 sq 8 sq rfl rfl W0.drew HD1.out.bel (by omega) (by omega)).mono ?_); rintro e u1 ⟨A1, c1, rfl, hB1, hb1⟩; have HD2 := Lib.hid (HD1.out.later hb1); have HB1 := Lib.hid hB1; clear hB1 hb1; obtain ⟨q0, q1, q2, -, -⟩ := HD2.out.im.cells5)
      | (go_at_call 37; (with_reducible refine (lputE 2 sg 2 sg rfl rfl u1 (by omega) (by omega)).mono ?_); rintro e u2 ⟨A2, c2, rfl, hr2, hb2⟩; have HD3 := Lib.hid (HD2.out.later hb2); have HB2 := Lib.hid (HB1.out.later hb2); have HR2 := Lib.hid hr2; clear hr2 hb2; obtain ⟨r0, r1, r2, -, -⟩ := HD3.out.im.cells5)
      | (refine appS HB2.out A2 2 c2 10 (le 2 sg) rfl (le_len _ _) HR2.out (by omega) (by rfl) _ _ (by rfl) (by rfl) (by rfl) ?_; intro A3 c3 u3 hB3 hg3; have HD4 := Lib.hid (HD3.out.grown HB2.out hg3); have HB3 := Lib.hid hB3; clear hB3 hg3; obtain ⟨s0, s1, s2, -, -⟩ := HD4.out.im.cells5)
      | (go_at_call 37; (with_reducible refine (lputE 2 ix 2 ix rfl rfl u3 (by omega) (by omega)).mono ?_); rintro e u4 ⟨A4, c4, rfl, hr4, hb4⟩; have HD5 := Lib.hid (HD4.out.later hb4); have HB4 := Lib.hid (HB3.out.later hb4); have HR4 := Lib.hid hr4; clear hr4 hb4; obtain ⟨t0, t1, t2, -, -⟩ := HD5.out.im.cells5)
      | (refine appS HB4.out A4 2 c4 12 (le 2 ix) rfl (le_len _ _) HR4.out (by omega) (by rfl) _ _ (by rfl) (by rfl) (by rfl) ?_; intro A5 c5 u5 hB5 hg5; have HD6 := Lib.hid (HD5.out.grown HB4.out hg5); have HB5 := Lib.hid hB5; clear hB5 hg5; obtain ⟨v0, v1, v2, -, -⟩ := HD6.out.im.cells5))
  obtain ⟨hl, hhl⟩ : ∃ hl, hl = hdL sq sg ix := ⟨_, rfl⟩
  have hB5 := HB5.out
  rw [show le 8 sq ++ le 2 sg ++ le 2 ix = hl from hhl.symm] at hB5
  have HHL := Lib.hid hhl
  have HB6 := Lib.hid hB5
  obtain ⟨-, -, -, k3, k4⟩ := HD6.out.im.cells5
  clear hB5 hhl z0 z1 z2 y0 y1 y2 q0 q1 q2 r0 r1 r2 s0 s1 s2 t0 t1 t2 v0 v1 v2 HD0 HD1 HD2 HD3 HD4 HD5 HB1 HB2 HB3 HB4 HB5 HR2 HR4 e1 e2 e3
  go_wp2_with fail
  clear k3 k4
  go_loopw [7, 9, 33] (fun al _ i wr => ∃ (k : Nat) (A' : Option Addr) (c' n' : Nat), k ≤ cs.length ∧ i = .int .i64 k ∧ n' = 12 + 9 * k ∧ al = .slice A' n' c' ∧ Bn w wr A' c' n' (hl ++ csL (cs.take k)) ∧ Dt w wr x #[.int .u64 sq, .int .i64 ((sg : Int) - 1), .int .i64 ix, .slice A cs.length c, .slice B mp.length d]) (fun _ _ i _ => cs.length - (intOf i).toNat)
  case atStart => exact ⟨0, _, _, _, by omega, rfl, rfl, rfl, by have := HB6.out; simpa [csL] using this, HD6.out⟩
  case round =>
    clear HB6 HD6
    obtain ⟨k, A', c', n', hk, rfl, hn', rfl, hB, hD⟩ := hrel
    have HB := Lib.hid hB
    have HD := Lib.hid hD
    by_cases hlt : k < cs.length
    · obtain ⟨s, hs⟩ : ∃ s, cs[k]? = some s := ⟨_, List.getElem?_eq_getElem hlt⟩
      obtain ⟨ad, rfl, c0, c1⟩ := sgs_at (HRA.out.later hD.bel) hs
      obtain ⟨b0, b1⟩ := HC.out s (List.mem_of_getElem? hs)
      have g1 : (k : Int) < cs.length := by omega
      have hsn : hl ++ csL (cs.take (k + 1)) = hl ++ csL (cs.take k) ++ le 1 s.1 ++ le 8 s.2 := by rw [take_snoc_pk hs, csL_snoc]; simp only [List.append_assoc]
      rw [le1 b0] at hsn
      have HSN := Lib.hid hsn
      obtain ⟨al, hal⟩ : ∃ al, al = hl ++ csL (cs.take k) := ⟨_, rfl⟩
      rw [← hal] at HB HSN
      have f1 : IntKind.u8.wrap (s.1 : Int) = s.1 := by rw [IntKind.wrap_u8]; omega
      have hN : n' ≤ 9012 := by omega
      have hN1 : n' + 1 + 8 = 12 + 9 * (k + 1) := by omega
      have HN1 := Lib.hid hN1
      clear hB hD hs hsn hal hn' hN1
      go_upto_region 5 with fail
      have hbel : Below wr.heap.size wr (wr.alloc (.cells #[.int .i64 s.1, .int .u64 s.2] 72)) := (Below.refl _ _).alloc (Nat.le_refl _) _
      have HB1 := Lib.hid (HB.out.later hbel)
      have HD1 := Lib.hid (HD.out.later hbel)
      have HX1 := Lib.hid (Blk.new wr 72 #[.int .i64 s.1, .int .u64 s.2])
      obtain ⟨bx, hbx⟩ : ∃ bx, bx = wr.heap.size := ⟨_, rfl⟩
      rw [← hbx] at HX1
      rw [← hbx]
      generalize wr.alloc (.cells #[.int .i64 s.1, .int .u64 s.2] 72) = W1 at HB1 HD1 HX1 ⊢
      obtain ⟨z0, z1⟩ := HX1.out.cells2
      have hba := ((Below.refl W1.heap.size W1).alloc (Nat.le_refl _) (.cells #[.int .u8 s.1] 5)).drew
      obtain ⟨za0, za1⟩ := (HX1.out.later hba).cells2
      have HBA := Lib.hid hba
      have HRD1 : Hid (Rd (W1.alloc (.cells #[.int .u8 s.1] 5)).drew (some ⟨W1.heap.size, 0, none⟩) (byv [(s.1 : Int)])) := Lib.hid ((Rd.one W1 5 (.int .u8 s.1) rfl).later (below_drewN (Below.refl _ _) 1))
      clear hbel hbx hba
      go_region_held3 (fun w' => w'.cell? ⟨bx, 0, none⟩ = some (.int .i64 s.1) ∧ w'.cell? ⟨bx, 1, none⟩ = some (.int .u64 s.2))
        (first | exact ⟨by assumption, by assumption⟩ | go_keep)
        (first
          | (refine appS (HB1.out.later HBA.out) (some ⟨W1.heap.size, 0, none⟩) 1 1 (n' + 1) [(s.1 : Int)] rfl rfl HRD1.out (by omega) (by rfl) _ _ (by rfl) (by rfl) (by rfl) ?_; intro A2 c2 w2 hB2 hg2; have HD2 := Lib.hid ((HD1.out.later HBA.out).grown (HB1.out.later HBA.out) hg2); have HX2 := Lib.hid ((HX1.out.later HBA.out).grown hg2 (fun e => own_blk_ne (HB1.out.later HBA.out).row (HX1.out.later HBA.out) (by decide) e.symm)); have HB2 := Lib.hid hB2; clear hB2 hg2; obtain ⟨zb0, zb1⟩ := HX2.out.cells2)
          | (go_at_call 37; (with_reducible refine (lputE 8 s.2 8 s.2 rfl rfl w2 (by omega) (by omega)).mono ?_); rintro e w3 ⟨A3, c3, rfl, hr3, hb3⟩; have HD3 := Lib.hid (HD2.out.later hb3); have HX3 := Lib.hid (HX2.out.later hb3); have HB3 := Lib.hid (HB2.out.later hb3); have HR3 := Lib.hid hr3; clear hr3 hb3; obtain ⟨zc0, zc1⟩ := HX3.out.cells2)
          | (refine appS HB3.out A3 8 c3 (n' + 1 + 8) (le 8 s.2) rfl (le_len _ _) HR3.out (by omega) (by rfl) _ _ (by rfl) (by rfl) (by rfl) ?_; intro A4 c4 w4 hB4 hg4; have HD4 := Lib.hid (HD3.out.grown HB3.out hg4); have HX4 := Lib.hid (HX3.out.grown hg4 (fun e => own_blk_ne HB3.out.row HX3.out (by decide) e.symm)); have HB4 := Lib.hid hB4; clear hB4 hg4; obtain ⟨zd0, zd1⟩ := HX4.out.cells2))
      go_wp2_with fail
      go_roundw
      case rel => exact ⟨k + 1, A4, c4, n' + 1 + 8, by omega, by go_num, HN1.out, rfl, by rw [HSN.out]; exact HB4.out, HD4.out⟩
      case measure => simp [intOf]; omega
    · obtain rfl : k = cs.length := by omega
      rw [List.take_length] at HB
      obtain ⟨-, -, -, k3, k4⟩ := HD.out.im.cells5
      obtain ⟨nl, hnl⟩ : ∃ nl, nl = hl ++ csL cs := ⟨_, rfl⟩
      rw [← hnl] at HB
      have HNL := Lib.hid hnl
      clear hB hD hnl
      go_wp2_with fail
      clear k3 k4
      obtain ⟨N0, hN0⟩ : ∃ N0, N0 = 12 + 9 * cs.length := ⟨_, rfl⟩
      rw [← hN0] at hn'
      have hN0b : N0 ≤ 9012 := by omega
      have hTN : T = N0 + 4 * mp.length := by rw [← HT.out, picL_len]; simp only; omega
      have HTN := Lib.hid hTN
      clear hTN hN0
      go_loopw [7, 11, 51] (fun al _ i wr => ∃ (k : Nat) (A' : Option Addr) (c' n' : Nat), k ≤ mp.length ∧ i = .int .i64 k ∧ n' = N0 + 4 * k ∧ al = .slice A' n' c' ∧ Bn w wr A' c' n' (nl ++ mpL (mp.take k)) ∧ Dt w wr x #[.int .u64 sq, .int .i64 ((sg : Int) - 1), .int .i64 ix, .slice A cs.length c, .slice B mp.length d]) (fun _ _ i _ => mp.length - (intOf i).toNat)
      case atStart => exact ⟨0, _, _, _, by omega, rfl, hn', rfl, by have := HB.out; simpa [mpL] using this, HD.out⟩
      case round =>
        clear HB HD
        rename World => wi
        obtain ⟨k, A', c', n', hk, rfl, hn', rfl, hB, hD⟩ := hrel
        have HB := Lib.hid hB
        have HD := Lib.hid hD
        by_cases hlt : k < mp.length
        · obtain ⟨p, hp⟩ : ∃ p, mp[k]? = some p := ⟨_, List.getElem?_eq_getElem hlt⟩
          obtain ⟨ad, rfl, c0⟩ := mps_at (HRB.out.later hD.bel) hp
          have p0 := HM.out p (List.mem_of_getElem? hp)
          have g1 : (k : Int) < mp.length := by omega
          have hsn : nl ++ mpL (mp.take (k + 1)) = nl ++ mpL (mp.take k) ++ le 4 p := by rw [take_snoc_pk hp, mpL_snoc]; simp only [List.append_assoc]
          have HSN := Lib.hid hsn
          obtain ⟨al, hal⟩ : ∃ al, al = nl ++ mpL (mp.take k) := ⟨_, rfl⟩
          rw [← hal] at HB HSN
          have u1 : IntKind.u64.wrap (p : Int) = p := by rw [IntKind.wrap_u64]; omega
          have u2 : IntKind.i64.wrap (p : Int) = p := IntWalk.i64_in _ (by omega)
          have hN : n' ≤ 13012 := by omega
          have hN1 : n' + 4 = N0 + 4 * (k + 1) := by omega
          have HN1 := Lib.hid hN1
          clear hB hD hp hsn hal hn' hN1
          go_wp2_with (first
            | (go_at_call 37; (with_reducible refine (lputE 4 p 4 p rfl rfl _ (by omega) (by omega)).mono ?_); rintro e w3 ⟨A3, c3, rfl, hr3, hb3⟩; have HD3 := Lib.hid (HD.out.later hb3); have HB3 := Lib.hid (HB.out.later hb3); have HR3 := Lib.hid hr3; clear hr3 hb3)
            | (at_builtin; refine appW HB3.out A3 4 c3 (n' + 4) (le 4 p) rfl (le_len _ _) HR3.out (by omega) (by rfl) _ _ (by rfl) (by rfl) (by rfl) ?_; intro A4 c4 w4 hB4 hg4; have HD4 := Lib.hid (HD3.out.grown HB3.out hg4); have HB4 := Lib.hid hB4; clear hB4 hg4)
            | fail "no")
          go_roundw
          case rel => exact ⟨k + 1, A4, c4, n' + 4, by omega, by go_num, HN1.out, rfl, by rw [HSN.out]; exact HB4.out, HD4.out⟩
          case measure => simp [intOf]; omega
        · obtain rfl : k = mp.length := by omega
          rw [List.take_length] at HB
          obtain ⟨al, hal⟩ : ∃ al, al = nl ++ mpL mp := ⟨_, rfl⟩
          rw [← hal] at HB
          have hal2 : al = picL ⟨sq, sg, ix, cs, mp⟩ := by rw [hal, HNL.out, HHL.out]; rfl
          have hnT : n' = T := by rw [hn', HTN.out]
          rw [hnT] at HB
          rw [hnT]
          have HAL := Lib.hid hal2
          have HAO : Hid (Oct al) := Lib.hid (by rw [hal2]; exact picL_oct _)
          have hlen : Hid (al.length = T) := Lib.hid (by rw [hal2]; exact HT.out)
          clear hB hD hal hal2 hnT hn'
          obtain ⟨gb, hgb⟩ : x.b = (g : Int) + 15 ∧ 1 ≤ g ∧ g ≤ 1000 := ⟨by have := HG.out.b; omega, HG.out.g1⟩
          have HXB := Lib.hid gb
          have hxb : 16 ≤ x.b ∧ x.b ≤ 1015 := by omega
          obtain ⟨i0, hi0, hz0, hz1, hz2⟩ := info_parts (show (Try.prog.info? 47).map (fun i => (i.zero, i.size, i.bytes)) = some (some (.slice none 0 0), 1, 24) by kernel_rfl)
          clear gb
          have hcap := HB.out.cap
          have HRD := Lib.hid HB.out.rd
          have HBEL := Lib.hid HB.out.bel
          clear HB
          go_wp2_with fail
          go_loopw [7, 12, 13, 14, 15] (fun alv out i _ _ wr => ∃ (j : Nat) (A1 : Option Addr) (c1 L : Nat) (es : List Sc), j ≤ P ∧ i = .int .i64 j ∧ L = T - j * g ∧ alv = .slice A1 L c1 ∧ L ≤ c1 ∧ Rd wi A1 (byv (al.drop (j * g))) ∧ es.length = j ∧ rws es = pgsL gen g al j ∧ Ap wi wr out es) (fun _ _ i _ _ _ => P - (intOf i).toNat)
          case atStart => exact ⟨0, _, _, T, [], by omega, rfl, by omega, rfl, hcap, by simpa using HRD.out, rfl, rfl, Ap.nil wi⟩
          case round =>
            clear HRD hcap
            rename World => wr
            obtain ⟨j, A1, c1, L, es, hj, rfl, hL, rfl, hLc, hR, hel, hes, hA⟩ := hrel
            have HR := Lib.hid hR
            have HA := Lib.hid hA
            have HES := Lib.hid hes
            have HEL := Lib.hid hel
            by_cases hlt2 : j < P
            · have hlo := HG.out.lt hlt2
              obtain ⟨lo, hlo2⟩ : ∃ lo, lo = j * g := ⟨_, rfl⟩
              have hlo3 : (j + 1) * g = lo + g := by rw [Nat.succ_mul, hlo2]
              rw [← hlo2] at hlo hL HR
              obtain ⟨m, hm⟩ : ∃ m, m = min g L := ⟨_, rfl⟩
              have m4 : mnI (x.b - 15) (L : Int) = (m : Int) := by rw [HXB.out]; unfold mnI; split <;> omega
              have hL1 : (0 : Int) < L := by omega
              have hL2 : L ≤ 100000 := by omega
              have hmL : m ≤ L ∧ 1 ≤ m ∧ m ≤ g := by omega
              obtain ⟨A7, c7, rfl, -, -, -⟩ := own_formc hA.al.row
              have hcl := fun W => cut_lo_ 47 1 Try.underlying47 (fun _ => by kernel_rfl) A1 L c1 m (m : Int) rfl (by omega) W
              have hch := fun W => cut_hi_ 47 1 Try.underlying47 (fun _ => by kernel_rfl) A1 L c1 m (m : Int) rfl (by omega) W
              obtain ⟨A2, hA2⟩ : ∃ A2, A2 = (if c1 = m then A1 else A1.map (·.add (m * 1))) := ⟨_, rfl⟩
              rw [← hA2] at hch
              have hdl : (al.drop lo).length = L := by rw [List.length_drop, hlen.out]; omega
              have hrt : ∀ W, Rd W A1 (byv (al.drop lo)) → Rd W A1 (byv ((al.drop lo).take m)) := fun W hW => by rw [byv_take]; exact hW.take_ m
              have hrd2 : ∀ W, Rd W A1 (byv (al.drop lo)) → Rd W A2 (byv (al.drop (lo + g))) := fun W hW => by
                have h9 := hW.cutg (size := 1) (c := c1) (n := m) (len := L) (by rw [byv_len, hdl, Nat.mul_one]) hLc
                rw [← hA2, Nat.mul_one, ← byv_drop, List.drop_drop] at h9
                by_cases h8 : m = g
                · rw [h8] at h9; exact h9
                · rw [List.drop_of_length_le (show al.length ≤ lo + g by rw [hlen.out]; omega)]
                  exact Rd.nil _ _
              have htl : ((al.drop lo).take m).length = m := by rw [List.length_take, hdl]; omega
              have hpb : [(80 : Int)] ++ le 8 gen ++ le 2 j ++ (al.drop lo).take m = pgB gen g al j := by
                unfold pgB
                rw [le1 (show 80 < 256 by decide), ← hlo2]
                congr 1
                by_cases h8 : m = g
                · rw [h8]
                · rw [List.take_of_length_le (by rw [hdl]; omega), List.take_of_length_le (by rw [hdl]; omega)]
              have hLn : L - m = T - (j + 1) * g := by rw [hlo3]; omega
              have HRT := Lib.hid hrt
              have HRD2 := Lib.hid hrd2
              have HTL := Lib.hid htl
              have HPB := Lib.hid hpb
              have HLN := Lib.hid hLn
              have HLO := Lib.hid hlo3
              have u1 : IntKind.u64.wrap (j : Int) = j := by rw [IntKind.wrap_u64]; omega
              have HBb0 : Hid (Bn wr (wr.alloc (.cells #[.int .u8 80] 5)) (some ⟨wr.heap.size, 0, none⟩) 1 1 [80]) := Lib.hid (Bn.blk (Blk.new wr 5 _) ((Below.refl _ _).alloc (Nat.le_refl _) _) (Nat.le_refl _))
              have HDR := Lib.hid (HD.out.later hA.al.bel)
              clear hR hA hes hel hlo hlo2 hlo3 hL hm hA2 hdl hrt hrd2 htl hpb hLn
              go_upto_region 18 with (first
                | (go_at_call 37; (with_reducible refine (lputE 8 gen 8 gen rfl rfl _ (by omega) (by omega)).mono ?_); rintro e w3 ⟨B1, d1, rfl, hr3, hb3⟩; have HBb1 := Lib.hid (HBb0.out.later hb3); have HR3 := Lib.hid hr3; clear hr3 hb3)
                | (at_builtin; refine appW HBb1.out B1 8 d1 9 (le 8 gen) rfl (le_len _ _) HR3.out (by omega) (by rfl) _ _ (by rfl) (by rfl) (by rfl) ?_; intro B2 d2 w4 hB4 hg4; have HBb2 := Lib.hid hB4; clear hB4 hg4)
                | (go_at_call 37; (with_reducible refine (lputE 2 j 2 j rfl rfl _ (by omega) (by omega)).mono ?_); rintro e w5 ⟨B3, d3, rfl, hr5, hb5⟩; have HBb3 := Lib.hid (HBb2.out.later hb5); have HR5 := Lib.hid hr5; clear hr5 hb5)
                | (at_builtin; refine appW HBb3.out B3 2 d3 11 (le 2 j) rfl (le_len _ _) HR5.out (by omega) (by rfl) _ _ (by rfl) (by rfl) (by rfl) ?_; intro B4 d4 w6 hB6 hg6; have HBb4 := Lib.hid hB6; clear hB6 hg6; obtain ⟨s0, s1, s2, s3, s4, s5⟩ := (HDR.out.later HBb4.out.bel).sh.cells6)
                | fail "no")
              have HBd := Lib.hid (HBb4.out.later (below_drewN (Below.refl _ _) 1))
              have HRd := Lib.hid (HR.out.later (HA.out.al.bel.trans (HBd.out.bel.mono HA.out.al.bel.size)))
              go_cut [7, 14] (fun av bv wx => ∃ B5 d5, av = .slice A2 (L - m) (c1 - m) ∧ bv = .slice B5 (11 + m) d5 ∧ Bn wr wx B5 d5 (11 + m) (pgB gen g al j))
              case first =>
                go_region_held3 (fun _ => True) (exact trivial) ((refine appS HBd.out A1 m c1 (11 + m) ((al.drop lo).take m) rfl HTL.out (HRT.out _ HRd.out) (by omega) (by rfl) _ _ (by rfl) (by rfl) (by rfl) ?_; intro B5 d5 w7 hB7 hg7; rw [HPB.out] at hB7; have HBb5 := Lib.hid hB7; clear hB7 hg7))
                all_goals
                  go_wp2_with fail
                  go_meet
                  exact ⟨B5, d5, rfl, rfl, HBb5.out⟩
              case rest =>
                obtain ⟨B5, d5, rfl, rfl, hB5⟩ := hcut
                have HBb6 := Lib.hid hB5
                clear hB5 hcl hch HBd HRd HBb4 HBb3 HBb2 HBb1 HBb0 HR3 HR5 s0 s1 s2 s3 s4 s5 u1 m4
                go_wp2_with fail
                go_loopw [14] (fun bv wr' => ∃ (k nn : Nat) (A' : Option Addr) (c' : Nat), k ≤ g - m ∧ nn = 11 + m + k ∧ bv = .slice A' nn c' ∧ Bn wr wr' A' c' nn (pgB gen g al j ++ List.replicate k 0)) (fun bv _ => (g + 11) - (match bv with | .slice _ n _ => n | _ => 0))
                case atStart => exact ⟨0, 11 + m, B5, d5, by omega, rfl, rfl, by simpa using HBb6.out⟩
                case round =>
                  rename World => wq
                  obtain ⟨k, nn, A', c', hk, hnn, rfl, hB⟩ := hrel
                  have HB := Lib.hid hB
                  have hnb : nn ≤ 2000 := by omega
                  obtain ⟨s0, s1, s2, s3, s4, s5⟩ := (HDR.out.later HB.out.bel).sh.cells6
                  clear HBb6 hB
                  by_cases hlt3 : k < g - m
                  · have g3 : (nn : Int) < x.b - 4 := by rw [HXB.out]; omega
                    have hn2 : nn + 1 = 11 + m + (k + 1) := by omega
                    have hm2 : nn < g + 11 := by omega
                    have HN2 := Lib.hid hn2
                    clear hnn hn2
                    go_wp2_with (at_builtin; refine appW (HB.out.later ((Below.refl _ _).alloc (Nat.le_refl _) _)) (some ⟨wq.heap.size, 0, none⟩) 1 1 (nn + 1) [0] rfl rfl (Rd.one _ _ _ rfl) (by omega) (by rfl) _ _ (by rfl) (by rfl) (by rfl) ?_; intro A4 c4 w4 hB4 hg4; have HB4 := Lib.hid hB4; clear hB4 hg4)
                    go_roundw
                    case rel => exact ⟨k + 1, nn + 1, A4, c4, by omega, HN2.out, rfl, by rw [List.replicate_succ', ← List.append_assoc]; exact HB4.out⟩
                    case measure => simp; omega
                  · obtain rfl : k = g - m := by omega
                    have hng : nn = g + 11 := by omega
                    have g3 : ¬ (nn : Int) < x.b - 4 := by rw [HXB.out]; omega
                    obtain ⟨pd, hpd⟩ : ∃ pd, pd = pad (pgB gen g al j) (g + 11) := ⟨_, rfl⟩
                    have hbl : (pgB gen g al j).length = 11 + m := by rw [← HPB.out]; simp only [List.length_append, le_len, HTL.out, List.length_singleton]
                    have hpe : pgB gen g al j ++ List.replicate (g - m) 0 = pd := by
                      rw [hpd]
                      unfold pad
                      rw [hbl]
                      congr 2
                      omega
                    rw [hpe] at HB
                    have hpl : pd.length = nn := HB.out.len
                    have hpo : Oct pd := by rw [hpd]; exact pad_oct (pgB_oct HAO.out _ _ _) _
                    have hse : sealL pd = pgL gen g al j := by rw [hpd]; rfl
                    have hsl : (sealL pd).length = g + 15 := by rw [sealL_len, hpl, hng]
                    have hsd := fun W (h : Rd W A' (byv pd)) => sealed_ok A' c' pd W h (by rw [hpl]; omega) hpo
                    rw [hpl] at hsd
                    have HSD := Lib.hid hsd
                    have HSE := Lib.hid hse
                    have HSLN := Lib.hid hsl
                    clear hpe hpd hbl hpl hpo hse hsl hsd hnn hng
                    go_wp2_with (first
                      | (go_at_call 17; (with_reducible refine (HSD.out _ HB.out.rd).mono ?_); rintro e us ⟨rs, rfl, howns, hbs⟩; have HAq := Lib.hid (HA.out.later HB.out.bel); have HAS := Lib.hid (HAq.out.later hbs); obtain ⟨As, cs2, rfl, how⟩ := ow_of (w0 := wi) howns rfl HAq.out.al.bel.size; have HOW := Lib.hid how; have HFR : Hid (∀ a, As = some a → wq.heap.size ≤ a.block) := Lib.hid (fun a e => (howns.lt a.block (by rw [e]; rfl)).1); have HA0 := Lib.hid (own_at0 howns); rw [HSLN.out]; clear howns how hbs)
                      | (at_builtin; refine wpList_append_any _ rfl _ _ 29 rfl wi.heap.size 47 i0 _ 1 24 Try.underlying29 hi0 hz0 hz1 hz2 rfl (by decide) (.slice A7 es.length c7) es.length (scs es) rfl (HAS.out.al.row.alloc _) (some ⟨us.heap.size, 0, none⟩) 1 1 [.slice As (g + 15) cs2] rfl rfl (Rd.blk_all (xs := [.slice As (g + 15) cs2]) (Blk.new us 47 _)) (by intro u hu; simp at hu; subst hu; rfl) (by rw [HEL.out]; unfold maxLen; omega) (by rw [HEL.out]; omega) (by have := HAS.out.al.bel.size; simp; omega) ?_; intro v8 w8 hown8 hg8 hat8; rw [show [Value.slice As (g + 15) cs2] = scs [⟨As, sealL pd, cs2⟩] by simp [scs, scv, HSLN.out]] at hown8; have HA8 := Lib.hid ((HAS.out.later ((Below.refl _ _).alloc (Nat.le_refl _) (.cells #[.slice As (g + 15) cs2] 47))).push (HOW.out.later ((Below.refl _ _).alloc (Nat.le_refl _) _)) HFR.out HA0.out HAq.out hg8 hown8); clear hown8 hg8 hat8)
                      | fail "no")
                    go_roundw
                    case rel => exact ⟨j + 1, A2, c1 - m, L - m, es ++ [⟨As, sealL pd, cs2⟩], by omega, by go_num, HLN.out, rfl, by omega, by rw [HLO.out]; exact HRD2.out _ HR.out, by rw [List.length_append, HEL.out]; rfl, by rw [rws_app, HES.out, pgsL_snoc, ← HSE.out]; rfl, HA8.out⟩
                    case measure => simp [intOf]; omega
            · obtain rfl : j = P := by omega
              have hL0 : L = 0 := by rw [hL]; have := HG.out.all; omega
              subst hL0
              obtain ⟨A7, c7, rfl, -, -, -⟩ := own_formc hA.al.row
              clear hR hA hes hel hL
              go_wp2_with fail
              go_ret
              exact ⟨_, es, rfl, by rw [HES.out, HAL.out], HA.out.base HBEL.out⟩
end Go.Proofs.Ytcpngnnnggpfpaa
