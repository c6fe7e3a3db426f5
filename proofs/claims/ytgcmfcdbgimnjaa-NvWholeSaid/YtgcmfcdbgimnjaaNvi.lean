/- The walk of NvWhole. No further condition. -/
import Derived.Test.YtgcmfcdbgimnjaaNvh
import Derived.Test.YtgcmfcdbgimnjaaNvb
namespace Go.Proofs.Ytgcmfcdbgimnjaa
open Go.RowKit
attribute [local go_sem ↓] Go.wp_at_zero Go.wp_at_succ

/-- All that stands when the power has gone. -/
structure Wx (w0 w : World) (g h wb rb nb : Nat) (used lim : Int) (l : List Rc) (next : Int) (r : Rt) (A : Option Addr) (c : Nat) (m : List Rc) : Prop where
  wh : Wh w0 w g h wb rb used lim l next r
  wasb : Blk w wb 42 #[.slice A m.length c]
  rd : Rd w A (rcs m)
  hd : Hd w m
  rt : Blk w rb 33 (rta r)
  nbx : Blk w nb 24 #[.pointer (some ⟨g, 0, none⟩)]
section
variable {w0 w w' : World} {g h wb rb nb c K : Nat} {used lim next : Int} {l m m2 : List Rc} {r : Rt} {A A2 : Option Addr} {c2 : Nat}
theorem Wx.later (k : Wx w0 w g h wb rb nb used lim l next r A c m) (hb : Below w.heap.size w w') : Wx w0 w' g h wb rb nb used lim l next r A c m :=
  ⟨k.wh.later hb, k.wasb.later hb, k.rd.later hb, k.hd.later hb, k.rt.later hb, k.nbx.later hb⟩
theorem Wx.dr (k : Wx w0 w g h wb rb nb used lim l next r A c m) : Wx w0 w.drew g h wb rb nb used lim l next r A c m := k.later (Below.refl _ _).drew
/-- A change at a block of another type. -/
theorem Wq.other {b : Nat} {cs : Array Value} (k : Wq w0 w g h wb rb used lim l next r) (hn : Blk w nb 24 #[.pointer (some ⟨g, 0, none⟩)]) (hb : Blk w b 4 cs) (f : Fr (· = b) w w') (hB : w0.heap.size ≤ b) : ∃ A c m, Wx w0 w' g h wb rb nb used lim l next r A c m ∧ m.map Rc.con = l.map Rc.con := by
  obtain ⟨B, v, m, h1, h2, h3⟩ := k.was
  obtain ⟨v', hnv⟩ := k.wh.nv
  obtain ⟨A, c, rfl, hrd, -, hhd⟩ := h2.hd
  have h2' : Rw w' B (.slice A m.length c) m := ⟨ownsRow_fr h2.row f fun q hq e => own_blk_ne h2.row hb (by decide) (by rw [hq, e]), fun x hx => ownsRow_fr (h2.data x hx) f fun q hq e => own_blk_ne (h2.data x hx) hb (by decide) (by rw [hq, e])⟩
  obtain ⟨A', c', e', hrd', -, hhd'⟩ := h2'.hd
  injection e' with e1 e2 e3
  subst e1 e3
  clear e2
  have hw := h1.fr f (Blk.ne_ h1 hb (by decide))
  have hr := k.rt.fr f (Blk.ne_ k.rt hb (by decide))
  refine ⟨A, c, m, ⟨⟨⟨v', ⟨hnv.own.fr f (Blk.ne_ hnv.own hb (by decide)), hnv.pw.fr f (Blk.ne_ hnv.pw hb (by decide)), ownsRow_fr hnv.row f fun q hq e => own_blk_ne hnv.row hb (by decide) (by rw [hq, e]), fun x hx => ownsRow_fr (hnv.data x hx) f fun q hq e => own_blk_ne (hnv.data x hx) hb (by decide) (by rw [hq, e])⟩⟩, k.wh.bel.trans (f.toBelow k.wh.bel.size fun q hq e => by omega), k.wh.far, ⟨_, hw⟩, ⟨_, hr⟩⟩, hw, hrd', hhd', hr, hn.fr f (Blk.ne_ hn hb (by decide))⟩, h3⟩
theorem Wx.cells (k : Wx w0 w g h wb rb nb used lim l next r A c m) : w.cell? ⟨nb, 0, none⟩ = some (.pointer (some ⟨g, 0, none⟩)) ∧ w.cell? ⟨wb, 0, none⟩ = some (.slice A m.length c) ∧ w.cell? ⟨rb, 0, none⟩ = some (.int .i64 r.m) ∧ w.cell? ⟨rb, 1, none⟩ = some (.int .i64 r.b) ∧ w.cell? ⟨rb, 2, none⟩ = some (.int .i64 r.s) ∧ w.cell? ⟨rb, 3, none⟩ = some (.int .i64 r.t) ∧ w.cell? ⟨rb, 4, none⟩ = some (.int .i64 r.n) ∧ w.cell? ⟨rb, 5, none⟩ = some (.int .i64 r.l) ∧
    w.cell? ⟨rb, 6, none⟩ = some (.int .u64 r.gen) ∧ w.cell? ⟨rb, 7, none⟩ = some (.int .u64 r.dur) ∧ w.cell? ⟨rb, 8, none⟩ = some (.int .i64 r.stale) :=
  ⟨k.nbx.cells1, k.wasb.cells1, k.rt.at_ rfl, k.rt.at_ rfl, k.rt.at_ rfl, k.rt.at_ rfl, k.rt.at_ rfl, k.rt.at_ rfl, k.rt.at_ rfl, k.rt.at_ rfl, k.rt.at_ rfl⟩
theorem recX (k : Wx w0 w g h wb rb nb used lim l next r A c m) (i : Wi used lim l next r K) : Calls Try.prog 13 #[.pointer (some ⟨g, 0, none⟩)] w fun e w' => ∃ A2 c2 m2, e = .returned (.slice A2 (List.length m2) c2) ∧ m2.map Rc.con = l.map Rc.con ∧ Rd w' A2 (rcs m2) ∧ Hd w' m2 ∧ Wx w0 w' g h wb rb nb used lim l next r A c m := by
  refine (wRec k.wh i).mono ?_
  rintro e w' ⟨v, m2, rfl, h1, h2, h3⟩
  obtain ⟨A2, c2, rfl, h4, -, h5⟩ := h2.hd
  exact ⟨A2, c2, m2, rfl, h1, h4, h5, k.later h3⟩
theorem sameX (k : Wx w0 w g h wb rb nb used lim l next r A c m) (i : Wi used lim l next r K) (h1 : m2.map Rc.con = l.map Rc.con) (h2 : Rd w A2 (rcs m2)) (h3 : Hd w m2) (hm : m.map Rc.con = l.map Rc.con) :
    Calls Try.prog 19 #[.slice A2 m2.length c2, .slice A m.length c] w fun e w' => e = .returned (.bool true) ∧ Wx w0 w' g h wb rb nb used lim l next r A c m := by
  have hlen : m2.length = l.length := by simpa using congrArg List.length h1
  have hl6 := i.l1
  have hr2 : ∀ y ∈ m2, y.raw.length ≤ 10000000 := fun y hy => by
    have h4 : y.con ∈ l.map Rc.con := h1 ▸ List.mem_map_of_mem hy
    obtain ⟨z, hz, e⟩ := List.mem_map.1 h4
    have e2 : z.raw = y.raw := congrArg (·.2.2.2) e
    rw [← e2, i.raw1 z hz]
    simp
  refine (same_ok A2 A c2 c m2 m w h2 k.rd h3 k.hd (by omega) hr2).mono ?_
  rintro e w' ⟨rfl, n, rfl⟩
  exact ⟨by rw [decide_eq_true (h1.trans hm.symm)], k.later (below_drewN (Below.refl _ _) n)⟩
theorem rootX (k : Wx w0 w g h wb rb nb used lim l next r A c m) : Calls Try.prog 17 #[.pointer (some ⟨g, 0, none⟩)] w fun e w' => e = .returned (.agg #[.int .i64 r.m, .int .i64 r.b, .int .i64 r.s, .int .i64 r.t, .int .i64 r.n, .int .i64 r.l, .int .u64 r.gen, .int .u64 r.dur, .int .i64 r.stale]) ∧ Wx w0 w' g h wb rb nb used lim l next r A c m := by
  refine (wRoot k.wh).mono ?_
  rintro e w' ⟨rfl, h3⟩
  exact ⟨rfl, k.later h3⟩
theorem usedX (k : Wx w0 w g h wb rb nb used lim l next r A c m) : Calls Try.prog 18 #[.pointer (some ⟨h, 0, none⟩)] w fun e w' => e = .returned (.int .i64 used) ∧ Wx w0 w' g h wb rb nb used lim l next r A c m := by
  obtain ⟨v, hn⟩ := k.wh.nv
  refine (used_ok h used lim w hn.pw).mono ?_
  rintro e w' ⟨rfl, rfl⟩
  exact ⟨rfl, k⟩
theorem setZ (B g h : Nat) (v : Value) (w : World) (k : NvS w B g h 0 (-1) v [] 1 rc0) : Calls Try.prog 10 #[.pointer (some ⟨g, 0, none⟩), .agg #[.int .i64 0, .int .i64 0, .int .i64 0, .int .i64 0, .int .i64 6, .int .i64 0, .int .u64 0, .int .u64 0, .int .i64 0]] w fun e w' => e = .returned (.tuple #[]) ∧ NvS w' B g h 1 (-1) v [] 1 ⟨0, 0, 0, 0, 6, 0, 0, 0, 0⟩ ∧ Fr (fun b => b = g ∨ b = h) w w' :=
  set_ok B g h 0 (-1) v [] 1 rc0 ⟨0, 0, 0, 0, 6, 0, 0, 0, 0⟩ w k (.inl (by decide)) (by decide) (by decide)
theorem rt_eql (r : Rt) (W : World) : (binOp .eql 33 (.agg #[.int .i64 r.m, .int .i64 r.b, .int .i64 r.s, .int .i64 r.t, .int .i64 r.n, .int .i64 r.l, .int .u64 r.gen, .int .u64 r.dur, .int .i64 r.stale]) (.agg #[.int .i64 r.m, .int .i64 r.b, .int .i64 r.s, .int .i64 r.t, .int .i64 r.n, .int .i64 r.l, .int .u64 r.gen, .int .u64 r.dur, .int .i64 r.stale])).run Try.prog W = .ok (.bool true) W := by
  go_simp
end
set_option maxRecDepth 100000 in
set_option maxHeartbeats 12800000 in
theorem whole_walk (A : Option Addr) (c : Nat) (l0 : List Av) (ops : Nat) (w : World) (ra : Rd w A (acs l0)) (hok : ∀ x ∈ l0, AvOk w x) (hm : l0.length ≤ 9223372036854775807) (hops : ops < 256) :
    Calls Try.prog 6 #[.slice A l0.length c, .int .u8 ops] w fun e w' => e = .returned (.bool true) ∧ Below w.heap.size w w' := by
  have HB0 := Lib.hid ((Below.refl w.heap.size w).alloc (Nat.le_refl _) (.cells #[.slice A l0.length c] 22))
  have HL0 := Lib.hid (Blk.new w 22 #[.slice A l0.length c])
  have HAW := Lib.hid (awake_ok (w.alloc (.cells #[.slice A l0.length c] 22)))
  have hmf : ∀ (W : World) (vs : Array Value), (Instr.makeFunc (.func 22) #[] vs).run Try.prog W = .ok (.func (.func 22) #[] vs) W := fun _ _ => rfl
  obtain ⟨lm, hlm⟩ : ∃ lm, lm = ops % 30 := ⟨_, rfl⟩
  have hlmi : (ops : Int) % 30 = lm := by omega
  have htm : (ops : Int).tmod 30 = lm := by rw [Int.tmod_eq_emod_of_nonneg (by omega)]; omega
  have hlm30 : lm < 30 := by omega
  have wlm : IntKind.i64.wrap (lm : Int) = lm := IntWalk.i64_in _ (by omega)
  have wl1 : IntKind.i64.wrap (1 + (lm : Int)) = 1 + (lm : Int) := IntWalk.i64_in _ (by omega)
  clear hlm
  by_cases hlong : 40 < l0.length
  · go_enter Try.func6, Try.ntmps6
    go_wp2_with (first | (go_at_call 7; (with_reducible refine HAW.out.mono ?_); rintro e w1 ⟨rfl, hb1⟩; have HB1 := Lib.hid (HB0.out.trans (hb1.mono HB0.out.size)); have q0 := (HL0.out.later hb1).cells1; clear hb1) | fail "no")
    go_ret
    exact ⟨rfl, HB1.out⟩
  have hfew : l0.length ≤ 40 := by omega
  have HRA := Lib.hid ra
  have HOK := Lib.hid hok
  clear ra hok hlong hm
  go_enter Try.func6, Try.ntmps6
  go_upto_region 11 with (first
    | (go_at_call 7; (with_reducible refine HAW.out.mono ?_); rintro e w1 ⟨rfl, hb1⟩; have HB1 := Lib.hid (HB0.out.trans (hb1.mono HB0.out.size)); have HL1 := Lib.hid (HL0.out.later hb1); have q0 := HL1.out.cells1; clear hb1)
    | (go_at_call 9; (with_reducible refine (pnew_ok (-1) _).mono ?_); rintro e w2 ⟨rfl, hp2, hw2⟩; have hb2 : Below w1.heap.size w1 w2 := (by rw [hw2]; exact (Below.refl _ _).alloc (Nat.le_refl _) _); have HB2 := Lib.hid (HB1.out.trans (hb2.mono HB1.out.size)); have HL2 := Lib.hid (HL1.out.later hb2); have HP2 := Lib.hid hp2; clear hp2 hw2 hb2)
    | (go_at_call 8; (with_reducible refine (new_ok w.heap.size _ 0 (-1) w2 HP2.out).mono ?_); rintro e w3 ⟨rfl, hk3, hb3⟩; have hba := hb3.alloc hb3.size (.cells #[.pointer (some ⟨w2.heap.size, 0, none⟩)] 24); have HN3 := Lib.hid (hk3.later ((Below.refl _ _).alloc (Nat.le_refl _) (.cells #[.pointer (some ⟨w2.heap.size, 0, none⟩)] 24))); have HB3 := Lib.hid (HB2.out.trans (hba.mono HB2.out.size)); have HL3 := Lib.hid (HL2.out.later hba); have HX3 := Lib.hid (Blk.new w3 24 #[.pointer (some ⟨w2.heap.size, 0, none⟩)]); clear hk3 hb3 hba)
    | (go_at_call 10; (with_reducible refine (setZ _ _ _ _ _ HN3.out).mono ?_); rintro e w4 ⟨rfl, hn4, hf4⟩; have HN4 := Lib.hid hn4; have hb4 : Below w.heap.size w w4 := HB3.out.trans (hf4.toBelow HB3.out.size fun b hb e => by have h1 := HB1.out.size; have h2 := HB2.out.size; omega); have HB4 := Lib.hid hb4; have HL4 := Lib.hid (HL3.out.fr hf4 (by rintro (e | e); exact Blk.ne_ HL3.out HN3.out.own (by decide) e; exact Blk.ne_ HL3.out HN3.out.pw (by decide) e)); have HX4 := Lib.hid (HX3.out.fr hf4 (by rintro (e | e); exact Blk.ne_ HX3.out HN3.out.own (by decide) e; exact Blk.ne_ HX3.out HN3.out.pw (by decide) e)); clear hn4 hf4 hb4)
    | (go_at_call 20; (with_reducible refine (limit_ok _ 1 (-1) (lm : Int) _ HN4.out.pw (by omega) (by omega) (by omega) (by omega)).mono ?_); rintro e w5 ⟨rfl, hp5, hf5⟩; have HN5 := Lib.hid (HN4.out.power hp5 hf5); have HB5 := Lib.hid (HB4.out.trans (hf5.toBelow HB4.out.size fun b hb e => by have h1 := HB1.out.size; omega)); have HL5 := Lib.hid (HL4.out.fr hf5 (Blk.ne_ HL4.out HN4.out.pw (by decide))); have HX5 := Lib.hid (HX4.out.fr hf5 (Blk.ne_ HX4.out HN4.out.pw (by decide))); clear hp5 hf5)
    | fail "no")
  have hba := ((Below.refl w5.heap.size w5).alloc (Nat.le_refl _) (.cells #[.slice none 0 0] 42)).alloc (by simp) (.cells #[.int .i64 0, .int .i64 0, .int .i64 0, .int .i64 0, .int .i64 0, .int .i64 0, .int .u64 0, .int .u64 0, .int .i64 0] 33)
  have hwh : Wh w ((w5.alloc (.cells #[.slice none 0 0] 42)).alloc (.cells #[.int .i64 0, .int .i64 0, .int .i64 0, .int .i64 0, .int .i64 0, .int .i64 0, .int .u64 0, .int .u64 0, .int .i64 0] 33)) w2.heap.size w1.heap.size w5.heap.size (w5.heap.size + 1) 1 (1 + (lm : Int)) [] 1 ⟨0, 0, 0, 0, 6, 0, 0, 0, 0⟩ :=
    ⟨⟨_, HN5.out.later hba⟩, HB5.out.trans (hba.mono HB5.out.size), ⟨HB2.out.size, HB1.out.size, HB5.out.size, by have := HB5.out.size; omega⟩, ⟨_, (Blk.new w5 _ _).alloc _⟩, ⟨⟨0, 0, 0, 0, 0, 0, 0, 0, 0⟩, Blk.new_ _ _ _ (by simp)⟩⟩
  have hL := HL5.out.later hba
  have hX := HX5.out.later hba
  obtain ⟨W, hW⟩ : ∃ W, W = (w5.alloc (.cells #[.slice none 0 0] 42)).alloc (.cells #[.int .i64 0, .int .i64 0, .int .i64 0, .int .i64 0, .int .i64 0, .int .i64 0, .int .u64 0, .int .u64 0, .int .i64 0] 33) := ⟨_, rfl⟩
  obtain ⟨g, hg⟩ : ∃ g, g = w2.heap.size := ⟨_, rfl⟩
  obtain ⟨h, hh⟩ : ∃ h, h = w1.heap.size := ⟨_, rfl⟩
  obtain ⟨nb, hnb⟩ : ∃ nb, nb = w3.heap.size := ⟨_, rfl⟩
  obtain ⟨wb, hwb⟩ : ∃ wb, wb = w5.heap.size := ⟨_, rfl⟩
  obtain ⟨rb, hrb⟩ : ∃ rb, rb = w5.heap.size + 1 := ⟨_, rfl⟩
  obtain ⟨lb, hlb⟩ : ∃ lb, lb = w.heap.size := ⟨_, rfl⟩
  rw [← hW, ← hg, ← hh, ← hwb, show wb + 1 = rb by omega] at hwh
  rw [← hW] at hL hX ⊢
  rw [← hg, ← hnb] at hX
  rw [← hlb] at hL
  rw [← hg, ← hh, ← hnb, ← hwb, show wb + 1 = rb by omega, ← hlb]
  have hwi : Wi 1 (1 + (lm : Int)) [] 1 ⟨0, 0, 0, 0, 6, 0, 0, 0, 0⟩ 10 := ⟨rfl, by simp, ⟨by omega, by omega, by omega⟩, ⟨by omega, by omega⟩, fun x hx => by simp at hx⟩
  have hbb := (Below.refl W.heap.size W).alloc (Nat.le_refl _) (.cells #[.bool false] 4)
  have hbn := Blk.new W 4 #[.bool false]
  have hcl := whole_cl w lb nb wb rb g h A c l0 (1 + (lm : Int)) 1 1 [] ⟨0, 0, 0, 0, 6, 0, 0, 0, 0⟩ (W.alloc (.cells #[.bool false] 4)) (hL.later hbb) (hX.later hbb) (hwh.later hbb) hwi HRA.out HOK.out hfew
  have hrun := run_either 22 #[.pointer (some ⟨lb, 0, none⟩), .pointer (some ⟨nb, 0, none⟩), .pointer (some ⟨wb, 0, none⟩), .pointer (some ⟨rb, 0, none⟩)] W (fun w' => Below w.heap.size w w') (fun w' => Blk w' nb 24 #[.pointer (some ⟨g, 0, none⟩)] ∧ ∃ l next r, Wq w w' g h wb rb (1 + (lm : Int)) (1 + (lm : Int)) l next r ∧ Wi (1 + (lm : Int)) (1 + (lm : Int)) l next r 100) (fun _ => rfl) (hcl.mono (by
    rintro e w' (⟨rfl, hk, hb⟩ | ⟨rfl, hk, hq⟩)
    · exact .inl ⟨rfl, hk _ _ _ (by decide) (by decide) (by decide) (by decide) (by decide) hbn, hb⟩
    · exact .inr ⟨rfl, hk _ _ _ (by decide) (by decide) (by decide) (by decide) (by decide) hbn, hk _ _ _ (by decide) (by decide) (by decide) (by decide) (by decide) (hX.later hbb), hq⟩))
  have HRUN := Lib.hid hrun
  have HWB : Hid (Below w.heap.size w W) := Lib.hid hwh.bel
  clear hrun hcl hbn hbb hwi hwh hL hX hba hW hg hh hnb hwb hrb hlb q0 HX5 HL5 HN5 HB5 HX4 HL4 HN4 HB4 HX3 HL3 HN3 HB3 HL2 HP2 HB2 HL1 HB1 HL0 HB0 HAW HRA HOK
  go_wp2_with (first | (go_at_call 21; (with_reducible refine HRUN.out.mono ?_)) | fail "no")
  rintro e wy (⟨rfl, w9, hb9, hq9, hw9⟩ | ⟨rfl, w9, hb9, ⟨hn9, l, next, r, hq9, hi9⟩, hw9⟩)
  · have HBy : Hid (Below w.heap.size w wy) := Lib.hid (by rw [hw9]; exact hq9.setCell (p := ⟨W.heap.size, 0, none⟩) HWB.out.size _)
    clear hb9 hq9 hw9
    go_wp2
    go_quiet (fail)
    go_wp2
    go_ret
    exact ⟨rfl, below_drewN HBy.out _⟩
  · have hq10 := hq9.later ((Below.refl _ _).alloc (Nat.le_refl _) (.cells #[] 65))
    have hn10 := hn9.alloc (.cells #[] 65)
    have hb10 := hb9.alloc (.cells #[] 65)
    obtain ⟨Am, cm, m, hx, hm⟩ := Wq.other hq10 hn10 hb10 ((Fr.refl (· = W.heap.size) _).setCell (p := ⟨W.heap.size, 0, none⟩) (.inl rfl) (.bool true)) HWB.out.size
    rw [← hw9] at hx
    have HX := Lib.hid hx
    have HM := Lib.hid hm
    have HI := Lib.hid hi9
    obtain ⟨z0, z1, z2, z3, z4, z5, z6, z7, z8, z9, z10⟩ := hx.cells
    clear hb9 hq9 hn9 hi9 hw9 hq10 hn10 hb10 hx hm
    have hqr := rt_eql r
    go_wp2
    obtain ⟨ze0, ze1, ze2, ze3, ze4, ze5, ze6, ze7, ze8, ze9, ze10⟩ := HX.out.dr.cells
    go_region_held3 (fun w' => w'.cell? ⟨nb, 0, none⟩ = some (.pointer (some ⟨g, 0, none⟩)) ∧ w'.cell? ⟨wb, 0, none⟩ = some (.slice Am m.length cm) ∧ w'.cell? ⟨rb, 0, none⟩ = some (.int .i64 r.m) ∧ w'.cell? ⟨rb, 1, none⟩ = some (.int .i64 r.b) ∧ w'.cell? ⟨rb, 2, none⟩ = some (.int .i64 r.s) ∧ w'.cell? ⟨rb, 3, none⟩ = some (.int .i64 r.t) ∧ w'.cell? ⟨rb, 4, none⟩ = some (.int .i64 r.n) ∧ w'.cell? ⟨rb, 5, none⟩ = some (.int .i64 r.l) ∧ w'.cell? ⟨rb, 6, none⟩ = some (.int .u64 r.gen) ∧ w'.cell? ⟨rb, 7, none⟩ = some (.int .u64 r.dur) ∧ w'.cell? ⟨rb, 8, none⟩ = some (.int .i64 r.stale))
      (exact ⟨by with_reducible assumption, by with_reducible assumption, by with_reducible assumption, by with_reducible assumption, by with_reducible assumption, by with_reducible assumption, by with_reducible assumption, by with_reducible assumption, by with_reducible assumption, by with_reducible assumption, by with_reducible assumption⟩)
      (first
        | (go_at_call 13; (with_reducible refine (recX HX.out.dr HI.out).mono ?_); rintro e wa ⟨A2, c2, m2, rfl, h1, h2, h3, h4⟩; obtain ⟨za0, za1, za2, za3, za4, za5, za6, za7, za8, za9, za10⟩ := h4.cells; have HXa := Lib.hid h4; have H1 := Lib.hid h1; have H2 := Lib.hid h2; have H3 := Lib.hid h3; clear h1 h2 h3 h4)
        | (go_at_call 19; (with_reducible refine (sameX HXa.out HI.out H1.out H2.out H3.out HM.out).mono ?_); rintro e wb2 ⟨rfl, h4⟩; obtain ⟨zb0, zb1, zb2, zb3, zb4, zb5, zb6, zb7, zb8, zb9, zb10⟩ := h4.cells; have HXb := Lib.hid h4; clear h4)
        | (go_at_call 17; (with_reducible refine (rootX HXb.out).mono ?_); rintro e wc2 ⟨rfl, h4⟩; obtain ⟨zc0, zc1, zc2, zc3, zc4, zc5, zc6, zc7, zc8, zc9, zc10⟩ := h4.cells; have HXc := Lib.hid h4; clear h4)
        | (go_at_call 18; (with_reducible refine (usedX HXc.out).mono ?_); rintro e wd2 ⟨rfl, h4⟩; obtain ⟨zd0, zd1, zd2, zd3, zd4, zd5, zd6, zd7, zd8, zd9, zd10⟩ := h4.cells; have HXd := Lib.hid h4; clear h4)
        | fail "no arm")
    go_wp2
    go_ret
    exact ⟨by simp, HXd.out.wh.bel⟩
theorem nvWhole_true {H : Type} {enc : TypeId × Value → H} {r : Reach} {b0 : Nat} (v : Value) (d : DataW H) (ps : List MemPlace) (ops : Int) (w : World) (k : DataW.Trod enc Try.prog w 0 (fun _ => true) true 22 v d ps) (o : Value.okWide Try.prog w r b0 22 v) (ho : (Lit.int .u8 ops).wf = true) {Z : Prop} (_ : Z) :
    Calls Try.prog 6 #[v, .int .u8 ops] w fun e w' => e = .returned (.bool true) ∧ Below w.heap.size w w' := by
  obtain ⟨A, c, l, rfl, ra, h1, h2, hok⟩ := acts_of k o
  have g1 := u8_in_ ho
  obtain ⟨ops, rfl⟩ := Int.eq_ofNat_of_zero_le g1.1
  exact whole_walk A c l ops w ra hok (by unfold maxLen at h2; omega) (by omega)
end Go.Proofs.Ytgcmfcdbgimnjaa
