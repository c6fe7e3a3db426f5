/- The walk of super.Decode. No further condition. -/
import Derived.Test.YtcgodkahkgpojaaSe
namespace Go.Proofs.Ytcgodkahkgpojaa
open Go.RowKit
attribute [local go_sem ↓] Go.wp_at_zero Go.wp_at_succ

theorem Rd.cutg {w : World} {A : Option Addr} {xs : List Value} {size c n len : Nat} (k : Rd w A xs) (hl : xs.length = len * size) (hc : len ≤ c) : Rd w (if c = n then A else A.map (·.add (n * size))) (xs.drop (n * size)) := by
  by_cases hcn : c = n
  · have : len ≤ n := by omega
    have h2 := Nat.mul_le_mul_right size this
    rw [List.drop_eq_nil_of_le (by omega)]
    exact Rd.nil _ _
  · rw [if_neg hcn]
    intro j u hu
    rw [List.getElem?_drop] at hu
    obtain ⟨ad, e, hcl⟩ := k _ u hu
    subst e
    exact ⟨ad.add (n * size), rfl, by rw [add_of_add]; exact hcl⟩
def zeros (l : List Int) : Bool := l.all (· == 0)
/-- What is read. -/
def labS (xs : List Int) : Sh := ⟨nf xs 5 1, nf xs 6 2, nf xs 8 2, nf xs 10 2, nf xs 12 2, nf xs 14 4⟩
def goodS (xs : List Int) : Bool := (nf xs 0 4 == 827540562) && mayB (labS xs) && decide ((nf xs 4 1 : Int) < (labS xs).m) && decide ((labS xs).b = (xs.length : Int)) && zeros (xs.drop 22)
def z7 : Array Value := #[.int .i64 0, .int .i64 0, .int .i64 0, .int .i64 0, .int .i64 0, .int .i64 0, .int .i64 0]
def Sealed22 (xs : List Int) : Prop := xs.take 22 = sealL (xs.take 18)
def gLab (xs : List Int) : Array Value := if goodS xs = true then lbv (labS xs) (nf xs 4 1) else z7
def gCode (xs : List Int) : Int := if goodS xs = true then 0 else 4
instance (xs : List Int) : Decidable (Sealed22 xs) := inferInstanceAs (Decidable (_ = _))
def dLab (xs : List Int) : Array Value := if 22 ≤ xs.length ∧ Sealed22 xs then gLab xs else z7
def dCode (xs : List Int) : Int := if 22 ≤ xs.length then (if Sealed22 xs then gCode xs else 5) else 6
/-- The seven cells, laid anew. -/
theorem set7 {w : World} {g : Nat} {a b c d e f k : Value} (h : Blk w g 29 #[a, b, c, d, e, f, k]) (a' b' c' d' e' f' k' : Value) :
    Blk (((((((w.setCell ⟨g, 0, none⟩ a').setCell ⟨g, 1, none⟩ b').setCell ⟨g, 2, none⟩ c').setCell ⟨g, 3, none⟩ d').setCell ⟨g, 4, none⟩ e').setCell ⟨g, 5, none⟩ f').setCell ⟨g, 6, none⟩ k') g 29 #[a', b', c', d', e', f', k'] ∧
    Fr (· = g) w (((((((w.setCell ⟨g, 0, none⟩ a').setCell ⟨g, 1, none⟩ b').setCell ⟨g, 2, none⟩ c').setCell ⟨g, 3, none⟩ d').setCell ⟨g, 4, none⟩ e').setCell ⟨g, 5, none⟩ f').setCell ⟨g, 6, none⟩ k') := by
  refine ⟨?_, Fr.setCell (Fr.setCell (Fr.setCell (Fr.setCell (Fr.setCell (Fr.setCell (Fr.setCell (Fr.refl (· = g) w) (p := ⟨g, 0, none⟩) (.inl rfl) _) (p := ⟨g, 1, none⟩) (.inl rfl) _) (p := ⟨g, 2, none⟩) (.inl rfl) _) (p := ⟨g, 3, none⟩) (.inl rfl) _) (p := ⟨g, 4, none⟩) (.inl rfl) _) (p := ⟨g, 5, none⟩) (.inl rfl) _) (p := ⟨g, 6, none⟩) (.inl rfl) _⟩
  have h9 := ((((((h.set_ 0 a').set_ 1 b').set_ 2 c').set_ 3 d').set_ 4 e').set_ 5 f').set_ 6 k'
  simp only [List.setIfInBounds_toArray, List.set_cons_succ, List.set_cons_zero] at h9
  exact h9
theorem set6 {w : World} {g : Nat} {a b c d e f k : Value} (h : Blk w g 29 #[a, b, c, d, e, f, k]) (a' b' c' d' e' f' : Value) :
    Blk ((((((w.setCell ⟨g, 0, none⟩ a').setCell ⟨g, 1, none⟩ b').setCell ⟨g, 2, none⟩ c').setCell ⟨g, 3, none⟩ d').setCell ⟨g, 4, none⟩ e').setCell ⟨g, 5, none⟩ f') g 29 #[a', b', c', d', e', f', k] ∧
    Fr (· = g) w ((((((w.setCell ⟨g, 0, none⟩ a').setCell ⟨g, 1, none⟩ b').setCell ⟨g, 2, none⟩ c').setCell ⟨g, 3, none⟩ d').setCell ⟨g, 4, none⟩ e').setCell ⟨g, 5, none⟩ f') := by
  refine ⟨?_, Fr.setCell (Fr.setCell (Fr.setCell (Fr.setCell (Fr.setCell (Fr.setCell (Fr.refl (· = g) w) (p := ⟨g, 0, none⟩) (.inl rfl) _) (p := ⟨g, 1, none⟩) (.inl rfl) _) (p := ⟨g, 2, none⟩) (.inl rfl) _) (p := ⟨g, 3, none⟩) (.inl rfl) _) (p := ⟨g, 4, none⟩) (.inl rfl) _) (p := ⟨g, 5, none⟩) (.inl rfl) _⟩
  have h9 := (((((h.set_ 0 a').set_ 1 b').set_ 2 c').set_ 3 d').set_ 4 e').set_ 5 f'
  simp only [List.setIfInBounds_toArray, List.set_cons_succ, List.set_cons_zero] at h9
  exact h9
theorem Blk.cells7 {w : World} {g : Nat} {t : TypeId} {a b c d e f k : Value} (h : Blk w g t #[a, b, c, d, e, f, k]) : w.cell? ⟨g, 0, none⟩ = some a ∧ w.cell? ⟨g, 1, none⟩ = some b ∧ w.cell? ⟨g, 2, none⟩ = some c ∧ w.cell? ⟨g, 3, none⟩ = some d ∧ w.cell? ⟨g, 4, none⟩ = some e ∧ w.cell? ⟨g, 5, none⟩ = some f ∧ w.cell? ⟨g, 6, none⟩ = some k :=
  ⟨h.at_ rfl, h.at_ rfl, h.at_ rfl, h.at_ rfl, h.at_ rfl, h.at_ rfl, h.at_ rfl⟩
/-- While a label is read: the result's block, the reader. -/
structure Ds (w0 w : World) (g h : Nat) (zs : List Int) : Prop where
  res : Blk w w0.heap.size 29 #[.int .i64 0, .int .i64 0, .int .i64 0, .int .i64 0, .int .i64 0, .int .i64 0, .int .i64 0]
  re : Re w g h zs false
  bel : Below w0.heap.size w0 w
  far : w0.heap.size ≤ g
/-- And the label's own block. -/
structure Dx (w0 w : World) (X g h : Nat) (cs : Array Value) (zs : List Int) : Prop where
  ds : Ds w0 w g h zs
  lab : Blk w X 29 cs
  far : w0.heap.size < X
theorem Re.blk {w : World} {g h : Nat} {zs : List Int} {bad : Bool} (k : Re w g h zs bad) : ∃ cs, Blk w g 61 cs := by
  obtain ⟨o, c, k1, -, -, -⟩ := k.form
  exact ⟨_, k1⟩
/-- Behind the reading: the result's block, the label's. -/
structure Dl (w0 w : World) (X : Nat) (cs : Array Value) : Prop where
  res : Blk w w0.heap.size 29 #[.int .i64 0, .int .i64 0, .int .i64 0, .int .i64 0, .int .i64 0, .int .i64 0, .int .i64 0]
  lab : Blk w X 29 cs
  bel : Below w0.heap.size w0 w
  far : w0.heap.size < X
theorem Dl.later {w0 w w' : World} {X : Nat} {cs : Array Value} (k : Dl w0 w X cs) (hb : Below w.heap.size w w') : Dl w0 w' X cs := ⟨k.res.later hb, k.lab.later hb, k.bel.trans (hb.mono k.bel.size), k.far⟩
theorem Re.hblk {w : World} {g h : Nat} {zs : List Int} {bad : Bool} (k : Re w g h zs bad) : Re w.drew g h zs bad := k.later (below_drewN (Below.refl _ _) 1)
section
variable {w0 w w' : World} {X g h : Nat} {cs : Array Value} {zs zs' ys : List Int}
theorem Ds.later (k : Ds w0 w g h zs) (hb : Below w.heap.size w w') : Ds w0 w' g h zs := ⟨k.res.later hb, k.re.later hb, k.bel.trans (hb.mono k.bel.size), k.far⟩
theorem Dx.later (k : Dx w0 w X g h cs zs) (hb : Below w.heap.size w w') : Dx w0 w' X g h cs zs := ⟨k.ds.later hb, k.lab.later hb, k.far⟩
theorem Ds.took (k : Ds w0 w g h zs) (hr : Re w' g h zs' false) (hf : Fr (· = g) w w') : Ds w0 w' g h zs' := by
  obtain ⟨cs, hb⟩ := k.re.blk
  exact ⟨k.res.fr hf (Blk.ne_ k.res hb (by decide)), hr, k.bel.trans (hf.toBelow k.bel.size fun b hb e => by have := k.far; omega), k.far⟩
theorem takeS {i : Nat} (k : Ds w0 w g h (ys.drop i)) (n : Nat) (z : Int) (hz : z = n) (hn : i + n ≤ ys.length) (hy : ys.length ≤ 1000000) (ho : Oct ys) :
    Calls Try.prog 21 #[.pointer (some ⟨g, 0, none⟩), .int .i64 z] w fun e w' => e = .returned (.int .u64 (nf ys i n)) ∧ Ds w0 w' g h (ys.drop (i + n)) := by
  subst hz
  refine (take_ok g h (ys.drop i) n w k.re (by rw [List.length_drop]; omega) (by rw [List.length_drop]; omega) (ho.drop i)).mono ?_
  rintro e w' ⟨rfl, h1, h2⟩
  rw [nf_cast ho i n]
  rw [List.drop_drop] at h1
  exact ⟨rfl, k.took h1 h2⟩
theorem takeX {i : Nat} (k : Dx w0 w X g h cs (ys.drop i)) (n : Nat) (z : Int) (hz : z = n) (hn : i + n ≤ ys.length) (hy : ys.length ≤ 1000000) (ho : Oct ys) :
    Calls Try.prog 21 #[.pointer (some ⟨g, 0, none⟩), .int .i64 z] w fun e w' => e = .returned (.int .u64 (nf ys i n)) ∧ Dx w0 w' X g h cs (ys.drop (i + n)) := by
  subst hz
  refine (take_ok g h (ys.drop i) n w k.ds.re (by rw [List.length_drop]; omega) (by rw [List.length_drop]; omega) (ho.drop i)).mono ?_
  rintro e w' ⟨rfl, h1, h2⟩
  rw [nf_cast ho i n]
  rw [List.drop_drop] at h1
  obtain ⟨cs2, hb⟩ := k.ds.re.blk
  exact ⟨rfl, k.ds.took h1 h2, k.lab.fr h2 (Blk.ne_ k.lab hb (by decide)), k.far⟩
end
theorem lab_end {Q : Ending → World → Prop} (t : Array Value) (W : World) {R : Nat} {a b c d e f k : Value} (hb : Blk W R 29 #[a, b, c, d, e, f, k]) {code : Int} (h4 : t.getD 2 undef = .pointer (some ⟨R, 0, none⟩)) (h5 : t.getD 3 undef = .int .i64 code)
    (hQ : Q (.returned (.tuple #[.agg #[a, b, c, d, e, f, k], .int .i64 code])) W) : bodyPost Try.prog Try.f11 Q Exit.ret ⟨t, []⟩ W :=
  bodyPost_ret (results_cell2_row (fn := Try.f11) (p := 2) (u := 3) (ty := 29) (by kernel_rfl) _ h4 hb Try.underlying29 rfl (by kernel_rfl)) rfl (by rw [h5]; exact hQ)
def zlab : Array Value := #[.int .i64 0, .int .i64 0, .int .i64 0, .int .i64 0, .int .i64 0, .int .i64 0, .int .i64 0]
set_option maxRecDepth 100000 in
set_option maxHeartbeats 3200000 in
theorem decode_size (A : Option Addr) (n c : Nat) (w : World) (hn : n < 22) :
    Calls Try.prog 11 #[.slice A n c] w fun e w' => e = .returned (.tuple #[.agg z7, .int .i64 6]) ∧ Below w.heap.size w w' := by
  have HN := Lib.hid (Blk.new w 29 #[.int .i64 0, .int .i64 0, .int .i64 0, .int .i64 0, .int .i64 0, .int .i64 0, .int .i64 0])
  have HB := Lib.hid ((Below.refl w.heap.size w).alloc (Nat.le_refl _) (.cells #[.int .i64 0, .int .i64 0, .int .i64 0, .int .i64 0, .int .i64 0, .int .i64 0, .int .i64 0] 29))
  have d1 : decide ((n : Int) < 22) = true := by simp; omega
  go_enter Try.func11, Try.ntmps11
  go_wp2
  exact lab_end _ _ HN.out rfl rfl ⟨rfl, HB.out⟩
theorem take_parts (xs : List Int) (h : 22 ≤ xs.length) : ∃ ys ts, ys = xs.take 18 ∧ ts.length = 4 ∧ ys.length = 18 ∧ xs.take 22 = ys ++ ts ∧ (Oct xs → Oct ys ∧ Oct ts ∧ (num ts = cs ys ↔ Sealed22 xs)) := by
  have e : xs.take 22 = xs.take 18 ++ (xs.drop 18).take 4 := by rw [show 22 = 18 + 4 from rfl, List.take_add]
  have ht : ((xs.drop 18).take 4).length = 4 := by rw [List.length_take, List.length_drop]; omega
  refine ⟨xs.take 18, (xs.drop 18).take 4, rfl, ht, by rw [List.length_take]; omega, e, fun ho => ⟨ho.take _, (ho.drop _).take _, ?_⟩⟩
  unfold Sealed22
  rw [e]
  exact seal_iff (ho.take _) ((ho.drop _).take _) ht
set_option maxRecDepth 100000 in
set_option maxHeartbeats 3200000 in
theorem decode_sum (A : Option Addr) (c : Nat) (xs : List Int) (w : World) (hr : Rd w A (byv xs)) (hx : xs.length ≤ 100000) (hc : xs.length ≤ c) (ho : Oct xs) (hs : 22 ≤ xs.length) (hsum : ¬ Sealed22 xs) :
    Calls Try.prog 11 #[.slice A xs.length c] w fun e w' => e = .returned (.tuple #[.agg z7, .int .i64 5]) ∧ Below w.heap.size w w' := by
  obtain ⟨ys, ts, -, ht, hyl, hyt, hoo⟩ := take_parts xs hs
  obtain ⟨hyo, hto, hiff⟩ := hoo ho
  have hop := fun W (hW : Rd W A (byv (ys ++ ts))) => open_any A c ys ts W hW (by omega) hyo hto ht (by omega)
  rw [show ys.length + 4 = 22 by omega] at hop
  simp only [if_neg (fun e => hsum (hiff.1 e))] at hop
  have HOP := Lib.hid hop
  have HR : Hid (Rd w A (byv (ys ++ ts))) := Lib.hid (by rw [← hyt, byv_take]; exact hr.take _)
  have HN := Lib.hid (Blk.new w 29 #[.int .i64 0, .int .i64 0, .int .i64 0, .int .i64 0, .int .i64 0, .int .i64 0, .int .i64 0])
  have HB := Lib.hid ((Below.refl w.heap.size w).alloc (Nat.le_refl _) (.cells #[.int .i64 0, .int .i64 0, .int .i64 0, .int .i64 0, .int .i64 0, .int .i64 0, .int .i64 0] 29))
  have hcut := fun W => cut_lo_ 31 1 Try.underlying31 (fun _ => by kernel_rfl) A xs.length c 22 22 rfl (by omega) W
  have d1 : decide ((xs.length : Int) < 22) = false := by simp; omega
  clear hr ho hsum hyt hiff hop hyo hto ht hyl hs hoo
  go_enter Try.func11, Try.ntmps11
  go_wp2_with (first | (go_at_call 19; (refine (HOP.out _ (HR.out.alloc _)).mono ?_); rintro e w1 ⟨⟨r, rfl, rfl⟩, hb1⟩; have HB1 := Lib.hid (HB.out.trans (hb1.mono HB.out.size)); have HN1 := Lib.hid (HN.out.later hb1); clear hb1; have fz := fun i => HN1.out.frozen i; obtain ⟨p0, p1, p2, p3, p4, p5, p6⟩ := HN1.out.cells7) | fail "no")
  have hz := set7 HN1.out (.int .i64 0) (.int .i64 0) (.int .i64 0) (.int .i64 0) (.int .i64 0) (.int .i64 0) (.int .i64 0)
  exact lab_end _ _ hz.1 rfl rfl ⟨rfl, HB1.out.trans (hz.2.toBelow HB1.out.size fun b hb e => by omega)⟩
theorem checkE (m b s t n l r : Int) (h : chk ⟨m, b, s, t, n, l⟩ = r) (W : World) : Calls Try.prog 22 #[.agg #[.int .i64 m, .int .i64 b, .int .i64 s, .int .i64 t, .int .i64 n, .int .i64 l]] W fun e w' => e = .returned (.int .i64 r) ∧ Below W.heap.size W w' := by
  rw [← h]
  exact check_ok ⟨m, b, s, t, n, l⟩ W
set_option maxRecDepth 100000 in
set_option maxHeartbeats 12800000 in
theorem decode_rest (A : Option Addr) (c : Nat) (xs : List Int) (w : World) (hr : Rd w A (byv xs)) (hx : xs.length ≤ 100000) (hc : xs.length ≤ c) (ho : Oct xs) (hs : 22 ≤ xs.length) (hsl : Sealed22 xs) :
    Calls Try.prog 11 #[.slice A xs.length c] w fun e w' => e = .returned (.tuple #[.agg (gLab xs), .int .i64 (gCode xs)]) ∧ Below w.heap.size w w' := by
  obtain ⟨ys, ts, hys, ht, hyl, hyt, hoo⟩ := take_parts xs hs
  obtain ⟨hyo, hto, hiff⟩ := hoo ho
  have hop := fun W (hW : Rd W A (byv (ys ++ ts))) => open_any A c ys ts W hW (by omega) hyo hto ht (by omega)
  rw [show ys.length + 4 = 22 by omega] at hop
  simp only [if_pos (hiff.2 hsl)] at hop
  have HOP := Lib.hid hop
  have HR : Hid (Rd w A (byv (ys ++ ts))) := Lib.hid (by rw [← hyt, byv_take]; exact hr.take _)
  have HRA := Lib.hid hr
  have HN := Lib.hid (Blk.new w 29 #[.int .i64 0, .int .i64 0, .int .i64 0, .int .i64 0, .int .i64 0, .int .i64 0, .int .i64 0])
  have HB := Lib.hid ((Below.refl w.heap.size w).alloc (Nat.le_refl _) (.cells #[.int .i64 0, .int .i64 0, .int .i64 0, .int .i64 0, .int .i64 0, .int .i64 0, .int .i64 0] 29))
  have HYL := Lib.hid hyl
  have HXL := Lib.hid hs
  have hcut := fun W => cut_lo_ 31 1 Try.underlying31 (fun _ => by kernel_rfl) A xs.length c 22 22 rfl (by omega) W
  have d1 : decide ((xs.length : Int) < 22) = false := by simp; omega
  obtain ⟨mk, hmk⟩ : ∃ mk, mk = nf ys 0 4 := ⟨_, rfl⟩
  have bmk : mk < 4294967296 := by rw [hmk]; exact nf_lt hyo 0 (n := 4) (by decide)
  obtain ⟨kk, hkk⟩ : ∃ kk, kk = nf ys 4 1 := ⟨_, rfl⟩
  have bkk : kk < 256 := by rw [hkk]; exact nf_lt hyo 4 (n := 1) (by decide)
  obtain ⟨vm, hvm⟩ : ∃ vm, vm = nf ys 5 1 := ⟨_, rfl⟩
  have bvm : vm < 256 := by rw [hvm]; exact nf_lt hyo 5 (n := 1) (by decide)
  obtain ⟨vb, hvb⟩ : ∃ vb, vb = nf ys 6 2 := ⟨_, rfl⟩
  have bvb : vb < 65536 := by rw [hvb]; exact nf_lt hyo 6 (n := 2) (by decide)
  obtain ⟨vs, hvs⟩ : ∃ vs, vs = nf ys 8 2 := ⟨_, rfl⟩
  have bvs : vs < 65536 := by rw [hvs]; exact nf_lt hyo 8 (n := 2) (by decide)
  obtain ⟨vt, hvt⟩ : ∃ vt, vt = nf ys 10 2 := ⟨_, rfl⟩
  have bvt : vt < 65536 := by rw [hvt]; exact nf_lt hyo 10 (n := 2) (by decide)
  obtain ⟨vn, hvn⟩ : ∃ vn, vn = nf ys 12 2 := ⟨_, rfl⟩
  have bvn : vn < 65536 := by rw [hvn]; exact nf_lt hyo 12 (n := 2) (by decide)
  obtain ⟨vl, hvl⟩ : ∃ vl, vl = nf ys 14 4 := ⟨_, rfl⟩
  have bvl : vl < 4294967296 := by rw [hvl]; exact nf_lt hyo 14 (n := 4) (by decide)
  have HT0 : Hid (∀ W g h, Ds w W g h (ys.drop 0) → Calls Try.prog 21 #[.pointer (some ⟨g, 0, none⟩), .int .i64 4] W fun e w' => e = .returned (.int .u64 mk) ∧ Ds w w' g h (ys.drop 4)) := Lib.hid (fun W g h q => by rw [hmk]; exact takeS q 4 4 rfl (by omega) (by omega) hyo)
  have HT1 : Hid (∀ W g h, Ds w W g h (ys.drop 4) → Calls Try.prog 21 #[.pointer (some ⟨g, 0, none⟩), .int .i64 1] W fun e w' => e = .returned (.int .u64 kk) ∧ Ds w w' g h (ys.drop 5)) := Lib.hid (fun W g h q => by rw [hkk]; exact takeS q 1 1 rfl (by omega) (by omega) hyo)
  have HT2 : Hid (∀ W X g h cs, Dx w W X g h cs (ys.drop 5) → Calls Try.prog 21 #[.pointer (some ⟨g, 0, none⟩), .int .i64 1] W fun e w' => e = .returned (.int .u64 vm) ∧ Dx w w' X g h cs (ys.drop 6)) := Lib.hid (fun W X g h cs q => by rw [hvm]; exact takeX q 1 1 rfl (by omega) (by omega) hyo)
  have HT3 : Hid (∀ W X g h cs, Dx w W X g h cs (ys.drop 6) → Calls Try.prog 21 #[.pointer (some ⟨g, 0, none⟩), .int .i64 2] W fun e w' => e = .returned (.int .u64 vb) ∧ Dx w w' X g h cs (ys.drop 8)) := Lib.hid (fun W X g h cs q => by rw [hvb]; exact takeX q 2 2 rfl (by omega) (by omega) hyo)
  have HT4 : Hid (∀ W X g h cs, Dx w W X g h cs (ys.drop 8) → Calls Try.prog 21 #[.pointer (some ⟨g, 0, none⟩), .int .i64 2] W fun e w' => e = .returned (.int .u64 vs) ∧ Dx w w' X g h cs (ys.drop 10)) := Lib.hid (fun W X g h cs q => by rw [hvs]; exact takeX q 2 2 rfl (by omega) (by omega) hyo)
  have HT5 : Hid (∀ W X g h cs, Dx w W X g h cs (ys.drop 10) → Calls Try.prog 21 #[.pointer (some ⟨g, 0, none⟩), .int .i64 2] W fun e w' => e = .returned (.int .u64 vt) ∧ Dx w w' X g h cs (ys.drop 12)) := Lib.hid (fun W X g h cs q => by rw [hvt]; exact takeX q 2 2 rfl (by omega) (by omega) hyo)
  have HT6 : Hid (∀ W X g h cs, Dx w W X g h cs (ys.drop 12) → Calls Try.prog 21 #[.pointer (some ⟨g, 0, none⟩), .int .i64 2] W fun e w' => e = .returned (.int .u64 vn) ∧ Dx w w' X g h cs (ys.drop 14)) := Lib.hid (fun W X g h cs q => by rw [hvn]; exact takeX q 2 2 rfl (by omega) (by omega) hyo)
  have HT7 : Hid (∀ W X g h cs, Dx w W X g h cs (ys.drop 14) → Calls Try.prog 21 #[.pointer (some ⟨g, 0, none⟩), .int .i64 4] W fun e w' => e = .returned (.int .u64 vl) ∧ Dx w w' X g h cs (ys.drop 18)) := Lib.hid (fun W X g h cs q => by rw [hvl]; exact takeX q 4 4 rfl (by omega) (by omega) hyo)
  have wkk : IntKind.i64.wrap (kk : Int) = kk := IntWalk.i64_in _ (by omega)
  have wvm : IntKind.i64.wrap (vm : Int) = vm := IntWalk.i64_in _ (by omega)
  have wvb : IntKind.i64.wrap (vb : Int) = vb := IntWalk.i64_in _ (by omega)
  have wvs : IntKind.i64.wrap (vs : Int) = vs := IntWalk.i64_in _ (by omega)
  have wvt : IntKind.i64.wrap (vt : Int) = vt := IntWalk.i64_in _ (by omega)
  have wvn : IntKind.i64.wrap (vn : Int) = vn := IntWalk.i64_in _ (by omega)
  have wvl : IntKind.i64.wrap (vl : Int) = vl := IntWalk.i64_in _ (by omega)
  have hlab : labS xs = ⟨vm, vb, vs, vt, vn, vl⟩ := by
    unfold labS
    rw [hvm, hvb, hvs, hvt, hvn, hvl, hys, nf_take xs (by omega), nf_take xs (by omega), nf_take xs (by omega), nf_take xs (by omega), nf_take xs (by omega), nf_take xs (by omega)]
  have hk9 : nf xs 4 1 = kk := by rw [hkk, hys, nf_take xs (by omega)]
  have hm9 : nf xs 0 4 = mk := by rw [hmk, hys, nf_take xs (by omega)]
  obtain ⟨ac, hac⟩ : ∃ ac, ac = ((mk == 827540562) && mayB ⟨vm, vb, vs, vt, vn, vl⟩ && decide ((kk : Int) < vm) && decide ((vb : Int) = (xs.length : Int))) := ⟨_, rfl⟩
  have hgood : goodS xs = (ac && zeros (xs.drop 22)) := by
    unfold goodS
    rw [hlab, hk9, hm9, hac]
  have hfs : gLab xs = (if (ac && zeros (xs.drop 22)) = true then lbv ⟨vm, vb, vs, vt, vn, vl⟩ kk else z7) ∧ gCode xs = (if (ac && zeros (xs.drop 22)) = true then 0 else 4) := by
    unfold gLab gCode
    rw [hgood, hlab, hk9]
    exact ⟨rfl, rfl⟩
  have HFS := Lib.hid hfs
  have HAC := Lib.hid hac
  clear hr ho hsl hyt hiff hop hyo hto ht hyl hs hoo hys hmk hkk hvm hvb hvs hvt hvn hvl hlab hk9 hm9 hgood hfs hac
  go_enter Try.func11, Try.ntmps11
  go_upto_region 10 with (first
    | (go_at_call 19; (refine (HOP.out _ (HR.out.alloc _)).mono ?_); rintro e w1 ⟨⟨r, rfl, hown1⟩, hb1⟩; have HB1 := Lib.hid (HB.out.trans (hb1.mono HB.out.size)); have HN1 := Lib.hid (HN.out.later hb1); obtain ⟨A1, c1, rfl, hr1, -, -⟩ := own_formc hown1; have HR1 := Lib.hid hr1; clear hb1 hown1 hr1)
    | (go_at_call 20; (refine (read_ok A1 c1 ys _ HR1.out (by have := HYL.out; omega)).mono ?_); rintro e w2 ⟨g, h, rfl, hg, hh, hre, hb2⟩; have HD0 : Hid (Ds w w2 g h (ys.drop 0)) := Lib.hid ⟨HN1.out.later hb2, by rw [List.drop_zero]; exact hre, HB1.out.trans (hb2.mono HB1.out.size), Nat.le_trans HB1.out.size hg⟩; clear hg hh hre hb2)
    | (go_at_call 21; (with_reducible refine (HT0.out _ _ _ HD0.out).mono ?_); rintro e w3 ⟨rfl, hD1⟩; have HD1 := Lib.hid hD1; clear hD1)
    | (go_at_call 21; (with_reducible refine (HT1.out _ _ _ HD1.out).mono ?_); rintro e w4 ⟨rfl, hD2⟩; have HD2 : Hid (Dx w (w4.alloc (.cells #[.int .i64 0, .int .i64 0, .int .i64 0, .int .i64 0, .int .i64 0, .int .i64 0, .int .i64 kk] 29)) w4.heap.size g h #[.int .i64 0, .int .i64 0, .int .i64 0, .int .i64 0, .int .i64 0, .int .i64 0, .int .i64 kk] (ys.drop 5)) := Lib.hid ⟨hD2.later ((Below.refl _ _).alloc (Nat.le_refl _) _), Blk.new _ _ _, hD2.res.lt⟩; clear hD2)
    | (go_at_call 21; (with_reducible refine (HT2.out _ _ _ _ _ HD2.out).mono ?_); rintro e w5 ⟨rfl, hHD3⟩; have HD3 := Lib.hid hHD3; clear hHD3)
    | (go_at_call 21; (with_reducible refine (HT3.out _ _ _ _ _ HD3.out).mono ?_); rintro e w6 ⟨rfl, hHD4⟩; have HD4 := Lib.hid hHD4; clear hHD4)
    | (go_at_call 21; (with_reducible refine (HT4.out _ _ _ _ _ HD4.out).mono ?_); rintro e w7 ⟨rfl, hHD5⟩; have HD5 := Lib.hid hHD5; clear hHD5)
    | (go_at_call 21; (with_reducible refine (HT5.out _ _ _ _ _ HD5.out).mono ?_); rintro e w8 ⟨rfl, hHD6⟩; have HD6 := Lib.hid hHD6; clear hHD6)
    | (go_at_call 21; (with_reducible refine (HT6.out _ _ _ _ _ HD6.out).mono ?_); rintro e w9 ⟨rfl, hHD7⟩; have HD7 := Lib.hid hHD7; clear hHD7)
    | (go_at_call 21; (with_reducible refine (HT7.out _ _ _ _ _ HD7.out).mono ?_); rintro e w10 ⟨rfl, hHD8⟩; obtain ⟨l0, l1, l2, l3, l4, l5, l6⟩ := hHD8.lab.cells7; have fz := fun i => hHD8.lab.frozen i; have HD8 := Lib.hid hHD8; clear hHD8)
    | fail "no")
  have hs6 := set6 HD8.out.lab (.int .i64 vm) (.int .i64 vb) (.int .i64 vs) (.int .i64 vt) (.int .i64 vn) (.int .i64 vl)
  obtain ⟨W9, hW9⟩ : ∃ W9, W9 = (((((w10.setCell ⟨w4.heap.size, 0, none⟩ (.int .i64 vm)).setCell ⟨w4.heap.size, 1, none⟩ (.int .i64 vb)).setCell ⟨w4.heap.size, 2, none⟩ (.int .i64 vs)).setCell ⟨w4.heap.size, 3, none⟩ (.int .i64 vt)).setCell ⟨w4.heap.size, 4, none⟩ (.int .i64 vn)).setCell ⟨w4.heap.size, 5, none⟩ (.int .i64 vl) := ⟨_, rfl⟩
  rw [← hW9] at hs6 ⊢
  have hD9 : Dl w W9 w4.heap.size (lbv ⟨vm, vb, vs, vt, vn, vl⟩ kk) :=
    ⟨HD8.out.ds.res.fr hs6.2 (by have := HD8.out.far; omega), hs6.1, HD8.out.ds.bel.trans (hs6.2.toBelow HD8.out.ds.bel.size fun b hb e => by have := HD8.out.far; omega), HD8.out.far⟩
  obtain ⟨X, hX⟩ : ∃ X, X = w4.heap.size := ⟨_, rfl⟩
  rw [← hX] at hD9 ⊢
  have HD9 := Lib.hid hD9
  unfold lbv at HD9
  clear hs6 hW9 hX hD9 HD8 HD7 HD6 HD5 HD4 HD3 HD2 HD1 HD0 HT0 HT1 HT2 HT3 HT4 HT5 HT6 HT7 HR1 HN1 HB1 HN HB HOP HR l0 l1 l2 l3 l4 l5 l6 fz bmk bkk bvm bvb bvs bvt bvn bvl wkk wvm wvb wvs wvt wvn wvl
  go_cut [9] (fun ok wx => ok = .bool ac ∧ Dl w wx X #[.int .i64 vm, .int .i64 vb, .int .i64 vs, .int .i64 vt, .int .i64 vn, .int .i64 vl, .int .i64 kk])
  case first =>
    obtain ⟨y0, y1, y2, y3, y4, y5, y6⟩ := HD9.out.lab.cells7
    by_cases h1 : mk = 827540562
    · have e1 : ((mk : Int) == 827540562) = true := by simp; omega
      rcases h2 : mayB ⟨vm, vb, vs, vt, vn, vl⟩ with _ | _
      · have hck : chk ⟨vm, vb, vs, vt, vn, vl⟩ = 1 := by unfold chk; rw [h2]; rfl
        obtain rfl : ac = false := by rw [HAC.out, h2]; simp
        have HCK := Lib.hid hck
        clear hck h1 h2 HAC
        go_wp2_with (first | (go_at_call 22; (with_reducible refine (checkE _ _ _ _ _ _ _ HCK.out _).mono ?_); rintro e w11 ⟨rfl, hb11⟩; have HD11 := Lib.hid (HD9.out.later hb11); clear hb11) | fail "no")
        go_meet
        exact ⟨rfl, HD11.out⟩
      · have hck : chk ⟨vm, vb, vs, vt, vn, vl⟩ = 0 := by unfold chk; rw [h2]; rfl
        have HCK := Lib.hid hck
        by_cases h3 : (kk : Int) < vm
        · by_cases h4 : (vb : Int) = (xs.length : Int)
          · have e4 : ((vb : Int) == (xs.length : Int)) = true := by simp; omega
            have e4n : (vb == xs.length) = true := by simp; omega
            have e3n : decide (kk < vm) = true := by simp; omega
            have e3 : decide ((kk : Int) < vm) = true := by simp; omega
            obtain rfl : ac = true := by rw [HAC.out, h2, e3, h1]; simp; omega
            clear hck h1 h2 HAC h3 h4
            go_wp2_with (first | (go_at_call 22; (with_reducible refine (checkE _ _ _ _ _ _ _ HCK.out _).mono ?_); rintro e w11 ⟨rfl, hb11⟩; have HD11 := Lib.hid (HD9.out.later hb11); clear hb11; obtain ⟨x0, x1, x2, x3, x4, x5, x6⟩ := HD11.out.lab.cells7) | fail "no")
            go_meet
            exact ⟨rfl, HD11.out⟩
          · have e4 : ((vb : Int) == (xs.length : Int)) = false := by simp; omega
            have e4n : (vb == xs.length) = false := by simp; omega
            have e3n : decide (kk < vm) = true := by simp; omega
            have e3 : decide ((kk : Int) < vm) = true := by simp; omega
            obtain rfl : ac = false := by rw [HAC.out, decide_eq_false h4]; simp
            clear hck h1 h2 HAC h3 h4
            go_wp2_with (first | (go_at_call 22; (with_reducible refine (checkE _ _ _ _ _ _ _ HCK.out _).mono ?_); rintro e w11 ⟨rfl, hb11⟩; have HD11 := Lib.hid (HD9.out.later hb11); clear hb11; obtain ⟨x0, x1, x2, x3, x4, x5, x6⟩ := HD11.out.lab.cells7) | fail "no")
            go_meet
            exact ⟨rfl, HD11.out⟩
        · have e3n : decide (kk < vm) = false := by simp; omega
          have e3 : decide ((kk : Int) < vm) = false := by simp; omega
          obtain rfl : ac = false := by rw [HAC.out, e3]; simp
          clear hck h1 h2 HAC h3
          go_wp2_with (first | (go_at_call 22; (with_reducible refine (checkE _ _ _ _ _ _ _ HCK.out _).mono ?_); rintro e w11 ⟨rfl, hb11⟩; have HD11 := Lib.hid (HD9.out.later hb11); clear hb11; obtain ⟨x0, x1, x2, x3, x4, x5, x6⟩ := HD11.out.lab.cells7) | fail "no")
          go_meet
          exact ⟨rfl, HD11.out⟩
    · have e1 : ((mk : Int) == 827540562) = false := by simp; omega
      have e1n : (mk == 827540562) = false := by simp; omega
      obtain rfl : ac = false := by rw [HAC.out, e1n]; simp
      clear h1 HAC
      go_wp2_with fail
      go_meet
      exact ⟨rfl, HD9.out⟩
  case rest =>
    obtain ⟨rfl, hD⟩ := hcut
    have HD := Lib.hid hD
    clear HD9 hD
    obtain ⟨rl, hrl⟩ : ∃ rl, rl = xs.drop 22 := ⟨_, rfl⟩
    have hrll : rl.length = xs.length - 22 := by rw [hrl, List.length_drop]
    obtain ⟨A2, hA2⟩ : ∃ A2, A2 = (if c = 22 then A else A.map (·.add (22 * 1))) := ⟨_, rfl⟩
    have hlx : 22 ≤ xs.length := HXL.out
    have hcut2 := fun W => cut_hi_ 31 1 Try.underlying31 (fun _ => by kernel_rfl) A xs.length c 22 22 rfl hlx W
    rw [← hA2, ← hrll] at hcut2
    have hR2 : Rd w A2 (byv rl) := by
      have := HRA.out.cutg (size := 1) (c := c) (n := 22) (len := xs.length) (by simp [byv_len]) hc
      rw [← hA2, Nat.mul_one, ← byv_drop, ← hrl] at this
      exact this
    have HR2 := Lib.hid hR2
    rw [← hrl] at HFS
    have hrb : (rl.length : Int) ≤ 100000 := by omega
    clear hrll hR2 hA2 hrl hlx
    go_wp2
    go_loopw [9, 11, 81] (fun ok _ i wi => ∃ j : Nat, j ≤ rl.length ∧ i = .int .i64 j ∧ ok = .bool (ac && zeros (rl.take j)) ∧ Dl w wi X #[.int .i64 vm, .int .i64 vb, .int .i64 vs, .int .i64 vt, .int .i64 vn, .int .i64 vl, .int .i64 kk]) (fun _ _ i _ => rl.length - (intOf i).toNat)
    case atStart => exact ⟨0, by omega, rfl, by simp [zeros], HD.out⟩
    case round =>
      obtain ⟨j, hj, rfl, rfl, hD⟩ := hrel
      have HD := Lib.hid hD
      by_cases hjl : j < rl.length
      · obtain ⟨x, hx1⟩ : ∃ x, rl[j]? = some x := ⟨_, List.getElem?_eq_getElem hjl⟩
        obtain ⟨ad, rfl, hcx⟩ := (HR2.out.later hD.bel) j (.int .u8 x) (by simp [byv, hx1])
        have hz : zeros (rl.take (j + 1)) = (zeros (rl.take j) && (x == 0)) := by rw [take_snoc_pk hx1]; simp [zeros]
        have HZ := Lib.hid hz
        have g1 : (j : Int) < rl.length := by omega
        obtain ⟨a2, ha2⟩ : ∃ a2, a2 = (ac && zeros (rl.take j)) := ⟨_, rfl⟩
        rw [← ha2]
        have HA2 := Lib.hid ha2
        clear hx1 hz ha2 hD
        rcases a2 with _ | _
        all_goals
          go_wp2
          go_roundw
          case rel => exact ⟨j + 1, by omega, by go_num, by rw [HZ.out, ← Bool.and_assoc, ← HA2.out]; rfl, HD.out⟩
          case measure => simp [intOf]; omega
      · obtain rfl : j = rl.length := by omega
        rw [List.take_length]
        rcases hg : (ac && zeros rl) with _ | _
        all_goals
          rw [hg] at HFS
          obtain ⟨r0, r1, r2, r3, r4, r5, r6⟩ := hD.res.cells7
          have fz := fun i => hD.res.frozen i
          clear hg hD
        · go_wp2
          have hz := set7 HD.out.res (.int .i64 0) (.int .i64 0) (.int .i64 0) (.int .i64 0) (.int .i64 0) (.int .i64 0) (.int .i64 0)
          refine lab_end _ _ hz.1 rfl rfl ⟨?_, HD.out.bel.trans (hz.2.toBelow HD.out.bel.size fun b hb e => by omega)⟩
          rw [HFS.out.1, HFS.out.2]
          rfl
        · obtain ⟨x0, x1, x2, x3, x4, x5, x6⟩ := HD.out.lab.cells7
          have hne : X ≠ w.heap.size := by have := HD.out.far; omega
          go_wp2
          have hz := set7 HD.out.res (.int .i64 vm) (.int .i64 vb) (.int .i64 vs) (.int .i64 vt) (.int .i64 vn) (.int .i64 vl) (.int .i64 kk)
          refine lab_end _ _ hz.1 rfl rfl ⟨?_, HD.out.bel.trans (hz.2.toBelow HD.out.bel.size fun b hb e => by omega)⟩
          rw [HFS.out.1, HFS.out.2]
          rfl
theorem decode_ok (A : Option Addr) (c : Nat) (xs : List Int) (w : World) (hr : Rd w A (byv xs)) (hx : xs.length ≤ 100000) (hc : xs.length ≤ c) (ho : Oct xs) :
    Calls Try.prog 11 #[.slice A xs.length c] w fun e w' => e = .returned (.tuple #[.agg (dLab xs), .int .i64 (dCode xs)]) ∧ Below w.heap.size w w' := by
  by_cases h : 22 ≤ xs.length
  · by_cases h2 : Sealed22 xs
    · unfold dLab dCode
      rw [if_pos ⟨h, h2⟩, if_pos h, if_pos h2]
      exact decode_rest A c xs w hr hx hc ho h h2
    · unfold dLab dCode
      rw [if_neg (fun e => h2 e.2), if_pos h, if_neg h2]
      exact decode_sum A c xs w hr hx hc ho h h2
  · unfold dLab dCode
    rw [if_neg (fun e => h e.1), if_neg h]
    exact decode_size A xs.length c w (by omega)
end Go.Proofs.Ytcgodkahkgpojaa
