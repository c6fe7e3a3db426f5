/- The walk of NvOwn. No further condition. -/
import Derived.Test.YtgcmfcdbgimnjaaNv6
namespace Go.Proofs.Ytgcmfcdbgimnjaa
open Go.RowKit
attribute [local go_sem ↓] Go.wp_at_zero Go.wp_at_succ

/-- A row of bytes, one of them another one. -/
theorem own_turn_ {w : World} {base b n c i : Nat} {xs : List Int} {y : Int} (k : w.ownsRow base 5 1 (.slice (some ⟨b, 0, none⟩) n c) n (byv xs)) :
    (w.setCell ⟨b, i, none⟩ (.int .u8 y)).ownsRow base 5 1 (.slice (some ⟨b, 0, none⟩) n c) n (byv (xs.set i y)) ∧ Fr (· = b) w (w.setCell ⟨b, i, none⟩ (.int .u8 y)) ∧ w.frozen? ⟨b, i, none⟩ = false := by
  obtain ⟨h1, h2⟩ := k
  rcases h2 with ⟨e, -⟩ | ⟨g', cap, cur, e, hb, hh, hnc, hm, hs, hx⟩
  · cases e
  · injection e with e e2 e3
    injection e with e
    injection e with e
    subst e e3
    have hk : Blk w b 5 cur := hh
    have hset : (w.setCell ⟨b, i, none⟩ (.int .u8 y)).heap[b]? = some (.cells (cur.setIfInBounds i (.int .u8 y)) 5 (0, 0)) := hk.set_ i _
    refine ⟨⟨by simpa [byv] using h1, .inr ⟨b, c, _, rfl, hb, hset, hnc, hm, by simpa using hs, ?_⟩⟩, (Fr.refl (· = b) w).setCell (p := ⟨b, i, none⟩) (.inl rfl) _, hk.frozen i⟩
    rw [Array.toList_setIfInBounds, List.take_set, hx]
    simp [byv, List.map_set]
/-- The first phase: the bytes that were handed in are turned; the memory's record lies elsewhere. -/
structure Ow (w0 w : World) (g h n cb : Nat) (Ab : Option Addr) (x0 : Rc) (next : Int) (r : Rt) : Prop where
  nv : NvL w0 w g h 2 [x0] next r
  row : ∃ zs, zs.length = n ∧ w.ownsRow w0.heap.size 5 1 (.slice Ab n cb) n (byv zs)
theorem Ow.later {w0 w w' : World} {g h n cb : Nat} {Ab : Option Addr} {x0 : Rc} {next : Int} {r : Rt} (k : Ow w0 w g h n cb Ab x0 next r) (hb : Below w.heap.size w w') : Ow w0 w' g h n cb Ab x0 next r := by
  obtain ⟨zs, h1, h2⟩ := k.row
  exact ⟨k.nv.later hb, zs, h1, ownsRow_later h2 hb⟩
theorem Ow.turn {w0 w : World} {g h n cb b i : Nat} {x0 : Rc} {next y : Int} {r : Rt} (k : Ow w0 w g h n cb (some ⟨b, 0, none⟩) x0 next r) (hx : ∀ ad, x0.A = some ad → ad.block ≠ b) (hi : i < n) :
    Ow w0 (w.setCell ⟨b, i, none⟩ (.int .u8 y)) g h n cb (some ⟨b, 0, none⟩) x0 next r ∧ w.frozen? ⟨b, i, none⟩ = false ∧ ∃ z : Int, w.cell? ⟨b, i, none⟩ = some (.int .u8 z) := by
  obtain ⟨zs, h1, h2⟩ := k.row
  obtain ⟨h3, h4, h5⟩ := own_turn_ (i := i) (y := y) h2
  obtain ⟨v, hv⟩ := k.nv.nv
  obtain ⟨g', cap, cur, e, hgb, hbk, -, -⟩ := own_block h2 (by omega)
  injection e with e
  injection e with e
  injection e with e
  subst e
  have hd : Dt (w.setCell ⟨b, i, none⟩ (.int .u8 y)) w0.heap.size [x0] := fun x hx' => by
    have hx2 : x = x0 := by simpa using hx'
    subst hx2
    refine ownsRow_fr (hv.data x (by simp)) h4 fun b' hb' e => ?_
    subst e
    rcases hA : x.A with _ | ad
    · rw [hA] at hb'; simp [Value.ownBlock] at hb'
    · rw [hA] at hb'
      have hbe : ad.block = b' := by
        obtain ⟨_, _, e9, -, -, -⟩ := ofc (hv.data x (by simp))
        rw [hA] at e9
        have : (Value.slice (some ad) x.raw.length x.c).ownBlock = some ad.block := by
          obtain ⟨q1, q2, q3⟩ := ad
          rcases (hv.data x (by simp)).2 with ⟨e8, -⟩ | ⟨g8, c8, u8, e8, -⟩
          · rw [hA] at e8; cases e8
          · rw [hA] at e8
            injection e8 with e8
            injection e8 with e8
            rw [e8]
            rfl
        rw [this] at hb'
        injection hb'
      exact hx ad hA hbe
  have hne1 : b ≠ g := Blk.ne_ hbk hv.own (by decide)
  have hne2 : b ≠ h := Blk.ne_ hbk hv.pw (by decide)
  refine ⟨⟨⟨⟨v, hv.own.fr h4 (fun e => hne1 e.symm), hv.pw.fr h4 (fun e => hne2 e.symm), ownsRow_fr hv.row h4 (fun b' hb' e => own_blk_ne hv.row hbk (by decide) (by rw [hb', e])), hd⟩, k.nv.bel.setCell (p := ⟨b, i, none⟩) hgb _, k.nv.far, k.nv.few⟩, zs.set i y, by simpa using h1, h3⟩, h5, ?_⟩
  obtain ⟨z, hz⟩ : ∃ z, zs[i]? = some z := ⟨_, List.getElem?_eq_getElem (by omega)⟩
  obtain ⟨_, e, hc⟩ := Rd.of_own h2 i (.int .u8 z) (by simp [byv, hz])
  injection e with e
  subst e
  rw [add_zero_addr, Nat.zero_add] at hc
  exact ⟨z, hc⟩
theorem own_far_ {w : World} {base : Nat} {e : TypeId} {size n m c g : Nat} {t : TypeId} {cs : Array Value} {A : Option Addr} {xs : List Value} (k : w.ownsRow base e size (.slice A n c) m xs) (kb : Blk w g t cs) (hne : e ≠ t) : ∀ ad, A = some ad → ad.block ≠ g := by
  intro ad hA hg
  subst hA
  rcases k.2 with ⟨h, -⟩ | ⟨x, cap, cur, h, -, hh, -⟩
  · cases h
  · injection h with h
    injection h with h
    subst h
    exact Blk.ne_ (t := e) hh kb hne hg
theorem ownsRow_at {w w' : World} {base : Nat} {e : TypeId} {size n : Nat} {v : Value} {xs : List Value} (k : w.ownsRow base e size v n xs) (h : ∀ b cs, Blk w b e cs → v.ownBlock = some b → w'.heap[b]? = w.heap[b]?) : w'.ownsRow base e size v n xs := by
  refine ⟨k.1, ?_⟩
  rcases k.2 with h1 | ⟨g, cap, cur, rfl, hb, hh, r⟩
  · exact .inl h1
  · exact .inr ⟨g, cap, cur, rfl, hb, (h g cur hh rfl).trans hh, r⟩
/-- The second phase: what was answered is turned. -/
structure Ph (W w : World) (B cm : Nat) (Am : Option Addr) (y : Rc) : Prop where
  row : w.ownsRow B 45 4 (.slice Am 1 cm) 1 (rcs [y])
  data : ∃ zs, zs.length = y.raw.length ∧ w.ownsRow B 5 1 (.slice y.A y.raw.length y.c) y.raw.length (byv zs)
  bel : Below B W w
theorem Ph.later {W w w' : World} {B cm : Nat} {Am : Option Addr} {y : Rc} (k : Ph W w B cm Am y) (hb : Below w.heap.size w w') (hB : B ≤ w.heap.size) : Ph W w' B cm Am y := by
  obtain ⟨zs, h1, h2⟩ := k.data
  exact ⟨ownsRow_later k.row hb, ⟨zs, h1, ownsRow_later h2 hb⟩, k.bel.trans (hb.mono hB)⟩
theorem Ph.turn {W w : World} {B cm b i : Nat} {Am : Option Addr} {y : Rc} {z : Int} (k : Ph W w B cm Am y) (hy : y.A = some ⟨b, 0, none⟩) (hi : i < y.raw.length) :
    Ph W (w.setCell ⟨b, i, none⟩ (.int .u8 z)) B cm Am y ∧ w.frozen? ⟨b, i, none⟩ = false ∧ (∃ z : Int, w.cell? ⟨b, i, none⟩ = some (.int .u8 z)) ∧ Fr (· = b) w (w.setCell ⟨b, i, none⟩ (.int .u8 z)) ∧ ∃ cs, Blk w b 5 cs := by
  obtain ⟨zs, h1, h2⟩ := k.data
  rw [hy] at h2
  obtain ⟨h3, h4, h5⟩ := own_turn_ (i := i) (y := z) h2
  obtain ⟨g', cap, cur, e, hgb, hbk, -, -⟩ := own_block h2 (by omega)
  injection e with e
  injection e with e
  injection e with e
  subst e
  refine ⟨⟨ownsRow_fr k.row h4 (fun b' hb' e => own_blk_ne k.row hbk (by decide) (by rw [hb', e])), ⟨zs.set i z, by simpa using h1, by rw [hy]; exact h3⟩, k.bel.setCell (p := ⟨b, i, none⟩) hgb _⟩, h5, ?_, h4, _, hbk⟩
  obtain ⟨z, hz⟩ : ∃ z, zs[i]? = some z := ⟨_, List.getElem?_eq_getElem (by omega)⟩
  obtain ⟨_, e, hc⟩ := Rd.of_own h2 i (.int .u8 z) (by simp [byv, hz])
  injection e with e
  subst e
  rw [add_zero_addr, Nat.zero_add] at hc
  exact ⟨z, hc⟩
theorem one_of_con {m : List Rc} {x : Rc} (h : m.map Rc.con = [x].map Rc.con) : ∃ y, m = [y] ∧ y.raw = x.raw := by
  rcases m with _ | ⟨y, _ | ⟨z, m⟩⟩
  · simp at h
  · simp at h
    exact ⟨y, rfl, congrArg (fun q => q.2.2.2) h⟩
  · simp at h
set_option maxRecDepth 100000 in
set_option maxHeartbeats 12800000 in
theorem own_walk (A : Option Addr) (c : Nat) (xs : List Int) (x : Int) (w : World) (ra : Rd w A (byv xs)) (ho : Oct xs) (_hx : 0 ≤ x ∧ x < 256) (hm : xs.length ≤ 9223372036854775807) :
    Calls Try.prog 4 #[.slice A xs.length c, .int .u8 x] w fun e w' => e = .returned (.bool true) ∧ Below w.heap.size w w' := by
  have HAW := Lib.hid (awake_ok w)
  by_cases hlong : 100 < xs.length
  · go_enter Try.func4, Try.ntmps4
    go_wp2_with (go_at_call 7; refine HAW.out.mono ?_; rintro e w1 ⟨rfl, hb1⟩)
    go_ret
    exact ⟨rfl, hb1⟩
  have hfew : xs.length ≤ 100 := by omega
  have HRA := Lib.hid ra
  have HO := Lib.hid ho
  clear ra ho hlong hm
  go_enter Try.func4, Try.ntmps4
  go_wp2_with (first
    | (go_at_call 7; (with_reducible refine HAW.out.mono ?_); rintro e w0 ⟨rfl, hb0⟩; have HB0 := Lib.hid hb0; clear hb0)
    | (go_at_call 9; (with_reducible refine (pnew_ok (-1) _).mono ?_); rintro e w1 ⟨rfl, hp1, hw1⟩; have HB1 : Hid (Below w.heap.size w w1) := Lib.hid (by rw [hw1]; exact HB0.out.alloc HB0.out.size _); have HP1 := Lib.hid hp1; clear hp1 hw1)
    | (go_at_call 8; (with_reducible refine (newL w w1 HB1.out _ HP1.out HB0.out.size).mono ?_); rintro e w2 ⟨g, rfl, hk2⟩; have HK2 := Lib.hid hk2; clear hk2)
    | (go_at_call 10; (refine (setL HK2.out ⟨0, 0, 0, 0, 1, 0, 0, 0, 0⟩ (by decide)).mono ?_); rintro e w3 ⟨rfl, hk3⟩; have HK3 := Lib.hid hk3; clear hk3)
    | (go_at_call 15; (with_reducible refine (cloneb_ok A c xs _ (HRA.out.later HK3.out.bel) (by omega)).mono ?_); rintro e w4 ⟨r4, rfl, hown4, hb4⟩; have HK4 := Lib.hid (HK3.out.later hb4); obtain ⟨A4, c4, rfl, hr4, -, ha4⟩ := ofc hown4; have HO4 := Lib.hid (own_base hown4 HK3.out.bel.size); have HR4 := Lib.hid hr4; clear hown4 hb4 hr4 ha4)
    | (go_at_call 12; (with_reducible refine (appH HK4.out 1 3 A4 xs c4 HR4.out (by omega) (by obtain ⟨v, hv⟩ := HK4.out.nv; exact own_far_ HO4.out hv.pw (by decide)) (by decide) (by decide) (by decide) (by decide)).mono ?_); rintro e w5 ⟨rfl, x0, hx0, hxa, hk5, hbl⟩; have HX0 := Lib.hid hx0; have HXA := Lib.hid hxa; have HK5 : Hid (NvL w w5 g w0.heap.size 2 [x0] 2 ⟨0, 0, 0, 0, 1, 0, 0, 0, 0⟩) := Lib.hid hk5; have HO5 := Lib.hid (ownsRow_at (w' := w5) HO4.out (fun b cs hb hv => hbl b hb.lt (by obtain ⟨v, hv'⟩ := HK4.out.nv; exact Blk.ne_ hb hv'.own (by decide)) (by obtain ⟨v, hv'⟩ := HK4.out.nv; exact Blk.ne_ hb hv'.pw (by decide)) 5 cs hb (by decide))); clear hx0 hxa hk5 hbl)
    | fail "no")
  obtain ⟨h, hh⟩ : ∃ h, h = w0.heap.size := ⟨_, rfl⟩
  rw [← hh] at HK5
  have HOW : Hid (Ow w w5 g h xs.length c4 A4 x0 2 ⟨0, 0, 0, 0, 1, 0, 0, 0, 0⟩) := Lib.hid ⟨HK5.out, xs, rfl, HO5.out⟩
  have hxd : ∀ ad bd, x0.A = some ad → A4 = some bd → ad.block ≠ bd.block := fun ad bd h1 h2 => by
    have e1 := HXA.out ad h1
    subst h2
    rcases HO4.out.2 with ⟨e, -⟩ | ⟨q, cap, cur, e, -, hq, -⟩
    · cases e
    · injection e with e
      injection e with e
      have : Blk w4 q 5 cur := hq
      have := this.lt
      rw [e]
      show ad.block ≠ q
      omega
  have HXD := Lib.hid hxd
  clear hh hxd HK2 HK3 HK4 HO4 HR4 HP1 HB1 HB0 HO5 HK5 HXA
  obtain ⟨n, hn⟩ : ∃ n, n = xs.length := ⟨_, rfl⟩
  have HN := Lib.hid hn
  have hn100 : n ≤ 100 := by omega
  rw [← hn] at HOW
  have hnx : (xs.length : Int) = (n : Int) := by rw [hn]
  clear hn
  go_loopw [7, 30] (fun _ i wr => ∃ k : Nat, k ≤ n ∧ i = .int .i64 k ∧ Ow w wr g h n c4 A4 x0 2 ⟨0, 0, 0, 0, 1, 0, 0, 0, 0⟩) (fun _ i _ => n - (intOf i).toNat)
  case atStart => exact ⟨0, by omega, rfl, HOW.out⟩
  case round =>
    obtain ⟨k, hk, rfl, hW⟩ := hrel
    by_cases hlt : k < n
    · have hlen : xs.length = n := HN.out.symm
      obtain ⟨zs, hz1, hz2⟩ := hW.row
      obtain ⟨b, cap, cur, e, -, -, -, -⟩ := own_block hz2 (by omega)
      injection e with e _ e3
      subst e e3
      obtain ⟨hT, hfz, z, hc⟩ := hW.turn (y := x) (i := k) (fun ad h1 => HXD.out ad _ h1 rfl) hlt
      have HT := Lib.hid hT
      have g0 : (0 : Int) ≤ k := by omega
      have g1 : (k : Int) < n := by omega
      clear hT hz2 hW
      go_wp2
      go_roundw
      case rel => exact ⟨k + 1, by omega, by go_num, HT.out⟩
      case measure => simp [intOf]; omega
    · obtain rfl : k = n := by omega
      rename World => wa
      have HW := Lib.hid hW
      have HX0r : Hid (x0.raw = xs) := Lib.hid (congrArg (fun q => q.2.2.2) HX0.out)
      clear hW hk hlt HOW HXD HX0
      go_wp2_with (go_at_call 13; (with_reducible refine (recL HW.out.nv).mono ?_); rintro e w6 ⟨v6, m, rfl, hm6, hw6, hb6⟩; obtain ⟨y, rfl, hy⟩ := one_of_con hm6; have hrow6 : w6.ownsRow wa.heap.size 45 4 v6 1 (rcs [y]) := hw6.row; obtain ⟨Am, cm, rfl, -, -⟩ := ofc hrow6; have HPH : Hid (Ph wa w6 wa.heap.size cm Am y) := Lib.hid ⟨hrow6, ⟨y.raw, rfl, hw6.data y (by simp)⟩, hb6⟩; have HY := Lib.hid hy; clear hy hrow6 hw6 hb6 hm6)
      have hy100 : y.raw.length ≤ 100 := by rw [HY.out, HX0r.out]; omega
      go_loopw [9, 10, 41, 48] (fun _ _ i _ w7 => ∃ k : Nat, k ≤ 1 ∧ i = .int .i64 k ∧ Ph wa w7 wa.heap.size cm Am y) (fun _ _ i _ _ => 1 - (intOf i).toNat)
      case atStart => exact ⟨0, by omega, rfl, HPH.out⟩
      case round =>
        rename World => w7
        obtain ⟨k, hk, rfl, hP⟩ := hrel
        by_cases hlt : k < 1
        · have hky : [y][k]? = some y := by
            obtain rfl : k = 0 := by omega
            rfl
          obtain ⟨b, cap, cur, e, -, -, -, -⟩ := own_block hP.row (by omega)
          injection e with e _ e3
          subst e e3
          obtain ⟨c0, c1, c2, c3⟩ := row_cells hP.row hky
          have g1 : (k : Int) < 1 := by omega
          have hba := (Below.refl w7.heap.size w7).alloc (Nat.le_refl _) (.cells #[.int .u64 y.seq, .int .i64 y.kind, .int .i64 y.lba, .slice y.A y.raw.length y.c] 45)
          have hnew := Blk.new w7 45 #[.int .u64 y.seq, .int .i64 y.kind, .int .i64 y.lba, .slice y.A y.raw.length y.c]
          have x3 := hnew.at_ (i := 3) (u := .slice y.A y.raw.length y.c) rfl
          have HP2 := Lib.hid (hP.later hba hP.bel.size)
          have HNW := Lib.hid hnew
          clear hP hba hky hnew
          go_wp2
          go_loopw [10, 48] (fun _ i wi => ∃ k2 : Nat, k2 ≤ y.raw.length ∧ i = .int .i64 k2 ∧ Ph wa wi wa.heap.size cm (some ⟨b, 0, none⟩) y ∧ Blk wi w7.heap.size 45 #[.int .u64 y.seq, .int .i64 y.kind, .int .i64 y.lba, .slice y.A y.raw.length y.c]) (fun _ i _ => y.raw.length - (intOf i).toNat)
          case atStart => exact ⟨0, by omega, rfl, HP2.out, HNW.out⟩
          case round =>
            obtain ⟨k2, hk2, rfl, hP3, hX3⟩ := hrel
            by_cases hlt2 : k2 < y.raw.length
            · obtain ⟨zs, hz1, hz2⟩ := hP3.data
              obtain ⟨yb, ycap, ycur, e, -, -, -, -⟩ := own_block hz2 (by omega)
              injection e with e e2 e3
              clear e2 e3
              obtain ⟨hT, hfz, ⟨z, hc⟩, hfr, ycs, hyb⟩ := hP3.turn (z := x) (i := k2) e hlt2
              have hX4 := hX3.fr hfr (fun q => Blk.ne_ hX3 hyb (by decide) q)
              have x4 := hX3.at_ (i := 3) (u := .slice y.A y.raw.length y.c) rfl
              rw [e] at x4
              have HT := Lib.hid hT
              have HX4 := Lib.hid hX4
              have g2 : (0 : Int) ≤ k2 := by omega
              have g3 : (k2 : Int) < y.raw.length := by omega
              clear hT hX4 hz2 hP3 hX3 hfr hyb
              go_wp2
              go_roundw
              case rel => exact ⟨k2 + 1, by omega, by go_num, HT.out, HX4.out⟩
              case measure => simp [intOf]; omega
            · obtain rfl : k2 = y.raw.length := by omega
              have HP3 := Lib.hid hP3
              clear hP3 hX3
              go_wp2
              go_roundw
              case rel => exact ⟨k + 1, by omega, by go_num, HP3.out⟩
              case measure => simp [intOf]; omega
        · obtain rfl : k = 1 := by omega
          have HV := Lib.hid (HW.out.nv.later hP.bel)
          have HBW := Lib.hid (HW.out.nv.bel.trans (hP.bel.mono HW.out.nv.bel.size))
          have HRB := Lib.hid (HRA.out.later HBW.out)
          clear hP
          go_wp2_with (first
            | (go_at_call 13; (with_reducible refine (recL HV.out).mono ?_); rintro e w8 ⟨v8, m, rfl, hm8, hw8, hb8⟩; obtain ⟨z, rfl, hz⟩ := one_of_con hm8; have hrow8 : w8.ownsRow w7.heap.size 45 4 v8 1 (rcs [z]) := hw8.row; obtain ⟨Az, cz, rfl, -, -⟩ := ofc hrow8; obtain ⟨zb, zcap, zcur, e, -, -, -, -⟩ := own_block hrow8 (by omega); injection e with e _ e3; subst e e3; have hcells := (row_cells (i := 0) hrow8 rfl).2.2.2; have z3 : w8.cell? ⟨zb, 3, none⟩ = some (.slice z.A z.raw.length z.c) := hcells; have HZ := Lib.hid (Rd.of_own (hw8.data z (by simp))); have HZR := Lib.hid hz; have HB8 := Lib.hid hb8; clear hz hrow8 hw8 hb8 hm8 hcells)
            | (go_at_call 16; (with_reducible refine (equalb_ok z.A A z.c c z.raw xs _ HZ.out (HRB.out.later HB8.out) (by rw [HZR.out, HX0r.out]; omega)).mono ?_); rintro e w9 ⟨rfl, n9, rfl⟩)
            | fail "no")
          go_ret
          rw [show decide (z.raw = xs) = true from decide_eq_true (by rw [HZR.out, HX0r.out])]
          exact ⟨rfl, below_drewN (HBW.out.trans (HB8.out.mono HBW.out.size)) n9⟩
theorem nvOwn_true (A : Option Addr) (len cap : Nat) (zs : List Int) (x : Int) (w : World) (h : IsB w A len cap zs) (hx : (Lit.int .u8 x).wf = true) :
    Calls Try.prog 4 #[.slice A len cap, .int .u8 x] w fun e w' => e = .returned (.bool true) ∧ Below w.heap.size w w' := by
  have hm : len ≤ maxLen := by
    rcases h with ⟨-, rfl, -, -⟩ | ⟨x, -, h1, h2, -⟩
    · unfold maxLen; omega
    · omega
  obtain ⟨raw, rfl, ra, ho, -⟩ := isB_of h
  exact own_walk A cap raw x w ra ho (by have := u8_in_ hx; omega) (by unfold maxLen at hm; omega)
end Go.Proofs.Ytgcmfcdbgimnjaa
