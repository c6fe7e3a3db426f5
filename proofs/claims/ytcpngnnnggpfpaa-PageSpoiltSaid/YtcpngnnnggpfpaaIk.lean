/- The law's Make. No further condition. -/
import Derived.Test.YtcpngnnnggpfpaaIdb
namespace Go.Proofs.Ytcpngnnnggpfpaa
open Go.RowKit
attribute [local go_sem ↓] Go.wp_at_zero Go.wp_at_succ

/-- An image by small numbers. -/
structure Sml where
  sq : Nat
  sg : Int
  ix : Nat
  cs : List (Nat × Nat)
  mp : List Nat
abbrev cev (c : Nat × Nat) : List Value := [.int .u8 c.1, .int .u64 c.2]
def ces (l : List (Nat × Nat)) : List Value := l.flatMap cev
def mus (l : List Nat) : List Value := l.map fun (p : Nat) => Value.int .u16 p
structure OkSml (y : Sml) : Prop where
  sq : y.sq < 18446744073709551616
  sg : -128 ≤ y.sg ∧ y.sg ≤ 127
  ix : y.ix < 256
  cs : ∀ c ∈ y.cs, c.1 < 256 ∧ c.2 < 18446744073709551616
  mp : ∀ p ∈ y.mp, p < 65536
theorem cev_len (s : Nat × Nat) : (cev s).length = 2 := rfl
theorem ces_at {w : World} {A : Option Addr} {l : List (Nat × Nat)} (h : Rd w A (ces l)) {i : Nat} {s : Nat × Nat} (hi : l[i]? = some s) :
    ∃ x, A = some x ∧ w.cell? (x.add (i * 2)) = some (.int .u8 s.1) ∧ w.cell? ⟨(x.add (i * 2)).block, (x.add (i * 2)).off + 1, none⟩ = some (.int .u64 s.2) := by
  obtain ⟨ad, e, a0⟩ := h (i * 2) _ ((flat_get cev cev_len l i 0 s (by decide) hi).trans rfl)
  obtain ⟨_, e1, a1⟩ := h (i * 2 + 1) _ ((flat_get cev cev_len l i 1 s (by decide) hi).trans rfl)
  rw [e] at e1
  injection e1 with e1; subst e1
  rw [add_field ad (i * 2) 1 (by decide)] at a1
  exact ⟨_, e, a0, a1⟩
theorem mus_at {w : World} {A : Option Addr} {l : List Nat} (h : Rd w A (mus l)) {i p : Nat} (hi : l[i]? = some p) : ∃ x, A = some x ∧ w.cell? (x.add i) = some (.int .u16 p) := by
  obtain ⟨ad, e, a0⟩ := h i (.int .u16 p) (by unfold mus; rw [List.getElem?_map, hi]; rfl)
  exact ⟨ad, e, a0⟩
def segM (cs : List (Nat × Nat)) (i : Nat) : Nat × Nat := ((cs.getD i (0, 0)).1 % 3, (cs.getD i (0, 0)).2)
def mapM (mp : List Nat) (q j : Nat) : Nat := (mp.getD j 0) % (q + 1)
def segsM (cs : List (Nat × Nat)) (n : Nat) : List (Nat × Nat) := (List.range n).map (segM cs)
def mapsM (mp : List Nat) (q n : Nat) : List Nat := (List.range n).map (mapM mp q)
def sgM (sg : Int) (s : Nat) : Nat := if sg < 0 then 0 else sg.toNat % s + 1
/-- What Make makes. -/
def makeP (y : Sml) (s t q l : Nat) : Pic := ⟨y.sq, sgM y.sg s, y.ix % t, segsM y.cs s, mapsM y.mp q l⟩
theorem segsM_snoc (cs : List (Nat × Nat)) (n : Nat) : segsM cs (n + 1) = segsM cs n ++ [segM cs n] := by simp [segsM, List.range_succ]
theorem mapsM_snoc (mp : List Nat) (q n : Nat) : mapsM mp q (n + 1) = mapsM mp q n ++ [mapM mp q n] := by simp [mapsM, List.range_succ]
theorem segsM_len (cs : List (Nat × Nat)) (n : Nat) : (segsM cs n).length = n := by simp [segsM]
theorem mapsM_len (mp : List Nat) (q n : Nat) : (mapsM mp q n).length = n := by simp [mapsM]

/-- Behind a call: an image. -/
def PicRes (w' : World) (e : Ending) (y : Pic) : Prop :=
  ∃ A c B d, e = .returned (.agg #[.int .u64 y.sq, .int .i64 ((y.sg : Int) - 1), .int .i64 y.ix, .slice A y.cs.length c, .slice B y.mp.length d]) ∧ Rd w' A (sgs y.cs) ∧ Rd w' B (mps y.mp)
/-- The blocks of Make. -/
structure Mk (w0 w : World) (x : Sh) (mb : Array Value) (sq sg ix : Int) (v3 : Value) (cs : List (Nat × Nat)) (v4 : Value) (ms : List Nat) : Prop where
  sh : Blk w w0.heap.size 23 #[.int .i64 x.m, .int .i64 x.b, .int .i64 x.s, .int .i64 x.t, .int .i64 x.n, .int .i64 x.l]
  mb : Blk w (w0.heap.size + 1) 43 mb
  res : Blk w (w0.heap.size + 2) 28 #[.int .u64 0, .int .i64 0, .int .i64 0, .slice none 0 0, .slice none 0 0]
  im : Blk w (w0.heap.size + 3) 28 #[.int .u64 sq, .int .i64 sg, .int .i64 ix, v3, v4]
  r3 : w.ownsRow (w0.heap.size + 4) 72 2 v3 cs.length (sgs cs)
  r4 : w.ownsRow (w0.heap.size + 4) 3 1 v4 ms.length (mps ms)
  bel : Below w0.heap.size w0 w
section
variable {w0 w w' W : World} {x : Sh} {mb : Array Value} {sq sg ix : Int} {v3 v3' v4 v4' : Value} {cs : List (Nat × Nat)} {ms : List Nat}
theorem Mk.later (k : Mk w0 w x mb sq sg ix v3 cs v4 ms) (hb : Below w.heap.size w w') : Mk w0 w' x mb sq sg ix v3 cs v4 ms :=
  ⟨k.sh.later hb, k.mb.later hb, k.res.later hb, k.im.later hb, ownsRow_later k.r3 hb, ownsRow_later k.r4 hb, k.bel.trans (hb.mono k.bel.size)⟩
theorem Mk.big (k : Mk w0 w x mb sq sg ix v3 cs v4 ms) : w0.heap.size + 4 ≤ w.heap.size := k.im.lt
theorem Mk.open3 (k : Mk w0 w x mb sq sg ix v3 cs v4 ms) (hb : Below w.heap.size w W) (hg : W.grownBy w' v3.ownBlock) : w'.cell? ⟨w0.heap.size + 3, 3, none⟩ = some v3 ∧ w'.frozen? ⟨w0.heap.size + 3, 3, none⟩ = false := by
  have k' := k.later hb
  have b2 := k'.im.grown hg (fun e => own_blk_ne k'.r3 k'.im (by decide) e.symm)
  exact ⟨b2.at_ rfl, b2.frozen 3⟩
theorem Mk.open4 (k : Mk w0 w x mb sq sg ix v3 cs v4 ms) (hb : Below w.heap.size w W) (hg : W.grownBy w' v4.ownBlock) : w'.cell? ⟨w0.heap.size + 3, 4, none⟩ = some v4 ∧ w'.frozen? ⟨w0.heap.size + 3, 4, none⟩ = false := by
  have k' := k.later hb
  have b2 := k'.im.grown hg (fun e => own_blk_ne k'.r4 k'.im (by decide) e.symm)
  exact ⟨b2.at_ rfl, b2.frozen 4⟩
theorem Mk.push3 (k : Mk w0 w x mb sq sg ix v3 cs v4 ms) (hb : Below w.heap.size w W) (hg : W.grownBy w' v3.ownBlock) (e : Nat × Nat) (ho : w'.ownsRow (w0.heap.size + 4) 72 2 v3' (cs.length + 1) (sgs cs ++ sgv e)) :
    Mk w0 (w'.setCell ⟨w0.heap.size + 3, 3, none⟩ v3') x mb sq sg ix v3' (cs ++ [e]) v4 ms := by
  have k' := k.later hb
  have hv : ∀ b, v3.ownBlock = some b → w0.heap.size + 4 ≤ b := fun b hb => (k'.r3.lt b hb).1
  have b2 := k'.im.grown hg (fun e => own_blk_ne k'.r3 k'.im (by decide) e.symm)
  have f2 : Fr (· = w0.heap.size + 3) w' (w'.setCell ⟨w0.heap.size + 3, 3, none⟩ v3') := (Fr.refl (· = w0.heap.size + 3) w').setCell (p := ⟨w0.heap.size + 3, 3, none⟩) (.inl rfl) v3'
  have fg : Fr (fun b => v3.ownBlock = some b) W w' := Fr.of_grown hg
  have fa : Fr (fun b => v3.ownBlock = some b ∨ b = w0.heap.size + 3) W (w'.setCell ⟨w0.heap.size + 3, 3, none⟩ v3') := (fg.mono fun b _ e => .inl e).trans (f2.mono fun b _ e => .inr e) fun _ _ h => h
  have fl : ∀ b, b < w0.heap.size + 3 → ¬ (v3.ownBlock = some b ∨ b = w0.heap.size + 3) := fun b hb h => by
    rcases h with h | h
    · have := hv b h; omega
    · omega
  rw [← sgs_snoc] at ho
  refine ⟨k'.sh.fr fa (fl _ (by omega)), k'.mb.fr fa (fl _ (by omega)), k'.res.fr fa (fl _ (by omega)), b2.set_ 3 v3', ?_, ?_, k'.bel.trans (fa.toBelow k'.bel.size fun b hb h => fl b (by omega) h)⟩
  · rw [List.length_append]
    exact ownsRow_fr ho f2 fun b hb e => own_blk_ne ho b2 (by decide) (by rw [hb, e])
  · refine ownsRow_fr k'.r4 fa fun b hb h => ?_
    rcases h with h | h
    · exact own_own_ne k'.r4 k'.r3 (by decide) b hb h
    · subst h; exact own_blk_ne k'.r4 k'.im (by decide) hb
theorem Mk.push4 (k : Mk w0 w x mb sq sg ix v3 cs v4 ms) (hb : Below w.heap.size w W) (hg : W.grownBy w' v4.ownBlock) (p : Nat) (ho : w'.ownsRow (w0.heap.size + 4) 3 1 v4' (ms.length + 1) (mps ms ++ [.int .i64 ((p : Int) - 1)])) :
    Mk w0 (w'.setCell ⟨w0.heap.size + 3, 4, none⟩ v4') x mb sq sg ix v3 cs v4' (ms ++ [p]) := by
  have k' := k.later hb
  have hv : ∀ b, v4.ownBlock = some b → w0.heap.size + 4 ≤ b := fun b hb => (k'.r4.lt b hb).1
  have b2 := k'.im.grown hg (fun e => own_blk_ne k'.r4 k'.im (by decide) e.symm)
  have f2 : Fr (· = w0.heap.size + 3) w' (w'.setCell ⟨w0.heap.size + 3, 4, none⟩ v4') := (Fr.refl (· = w0.heap.size + 3) w').setCell (p := ⟨w0.heap.size + 3, 4, none⟩) (.inl rfl) v4'
  have fg : Fr (fun b => v4.ownBlock = some b) W w' := Fr.of_grown hg
  have fa : Fr (fun b => v4.ownBlock = some b ∨ b = w0.heap.size + 3) W (w'.setCell ⟨w0.heap.size + 3, 4, none⟩ v4') := (fg.mono fun b _ e => .inl e).trans (f2.mono fun b _ e => .inr e) fun _ _ h => h
  have fl : ∀ b, b < w0.heap.size + 3 → ¬ (v4.ownBlock = some b ∨ b = w0.heap.size + 3) := fun b hb h => by
    rcases h with h | h
    · have := hv b h; omega
    · omega
  rw [← mps_snoc] at ho
  refine ⟨k'.sh.fr fa (fl _ (by omega)), k'.mb.fr fa (fl _ (by omega)), k'.res.fr fa (fl _ (by omega)), b2.set_ 4 v4', ?_, ?_, k'.bel.trans (fa.toBelow k'.bel.size fun b hb h => fl b (by omega) h)⟩
  · refine ownsRow_fr k'.r3 fa fun b hb h => ?_
    rcases h with h | h
    · exact own_own_ne k'.r3 k'.r4 (by decide) b hb h
    · subst h; exact own_blk_ne k'.r3 k'.im (by decide) hb
  · rw [List.length_append]
    exact ownsRow_fr ho f2 fun b hb e => own_blk_ne ho b2 (by decide) (by rw [hb, e])
theorem Mk.box {Y : Nat} (k : Mk w0 w x mb sq sg ix v3 cs v4 ms) (f : Fr (· = Y) w w') (hY : w0.heap.size + 4 ≤ Y) (h3 : ∀ b, v3.ownBlock = some b → b ≠ Y) (h4 : ∀ b, v4.ownBlock = some b → b ≠ Y) : Mk w0 w' x mb sq sg ix v3 cs v4 ms :=
  ⟨k.sh.fr f (by omega), k.mb.fr f (by omega), k.res.fr f (by omega), k.im.fr f (by omega), ownsRow_fr k.r3 f h3, ownsRow_fr k.r4 f h4, k.bel.trans (f.toBelow k.bel.size fun b hb e => by omega)⟩
theorem Mk.done (k : Mk w0 w x mb sq sg ix v3 cs v4 ms) :
    Blk (((((w.setCell ⟨w0.heap.size + 2, 0, none⟩ (.int .u64 sq)).setCell ⟨w0.heap.size + 2, 1, none⟩ (.int .i64 sg)).setCell ⟨w0.heap.size + 2, 2, none⟩ (.int .i64 ix)).setCell ⟨w0.heap.size + 2, 3, none⟩ v3).setCell ⟨w0.heap.size + 2, 4, none⟩ v4) (w0.heap.size + 2) 28 #[.int .u64 sq, .int .i64 sg, .int .i64 ix, v3, v4] ∧
    (((((w.setCell ⟨w0.heap.size + 2, 0, none⟩ (.int .u64 sq)).setCell ⟨w0.heap.size + 2, 1, none⟩ (.int .i64 sg)).setCell ⟨w0.heap.size + 2, 2, none⟩ (.int .i64 ix)).setCell ⟨w0.heap.size + 2, 3, none⟩ v3).setCell ⟨w0.heap.size + 2, 4, none⟩ v4).ownsRow (w0.heap.size + 4) 72 2 v3 cs.length (sgs cs) ∧
    (((((w.setCell ⟨w0.heap.size + 2, 0, none⟩ (.int .u64 sq)).setCell ⟨w0.heap.size + 2, 1, none⟩ (.int .i64 sg)).setCell ⟨w0.heap.size + 2, 2, none⟩ (.int .i64 ix)).setCell ⟨w0.heap.size + 2, 3, none⟩ v3).setCell ⟨w0.heap.size + 2, 4, none⟩ v4).ownsRow (w0.heap.size + 4) 3 1 v4 ms.length (mps ms) ∧
    Below w0.heap.size w0 (((((w.setCell ⟨w0.heap.size + 2, 0, none⟩ (.int .u64 sq)).setCell ⟨w0.heap.size + 2, 1, none⟩ (.int .i64 sg)).setCell ⟨w0.heap.size + 2, 2, none⟩ (.int .i64 ix)).setCell ⟨w0.heap.size + 2, 3, none⟩ v3).setCell ⟨w0.heap.size + 2, 4, none⟩ v4) := by
  obtain ⟨h1, h2⟩ := im_set k.res (.int .u64 sq) (.int .i64 sg) (.int .i64 ix) v3 v4
  exact ⟨h1, ownsRow_fr k.r3 h2 (fun b hb e => own_blk_ne k.r3 k.res (by decide) (by rw [hb, e])), ownsRow_fr k.r4 h2 (fun b hb e => own_blk_ne k.r4 k.res (by decide) (by rw [hb, e])), k.bel.trans (h2.toBelow k.bel.size fun b hb e => by omega)⟩
end
/-- The first three blocks. -/
structure Mb (w0 w : World) (x : Sh) (mb : Array Value) : Prop where
  sh : Blk w w0.heap.size 23 #[.int .i64 x.m, .int .i64 x.b, .int .i64 x.s, .int .i64 x.t, .int .i64 x.n, .int .i64 x.l]
  mb : Blk w (w0.heap.size + 1) 43 mb
  res : Blk w (w0.heap.size + 2) 28 #[.int .u64 0, .int .i64 0, .int .i64 0, .slice none 0 0, .slice none 0 0]
  bel : Below w0.heap.size w0 w
  size : w.heap.size = w0.heap.size + 3
theorem Mb.start (w : World) (x : Sh) (mb : Array Value) : Mb w (((w.alloc (.cells #[.int .i64 x.m, .int .i64 x.b, .int .i64 x.s, .int .i64 x.t, .int .i64 x.n, .int .i64 x.l] 23)).alloc (.cells mb 43)).alloc (.cells #[.int .u64 0, .int .i64 0, .int .i64 0, .slice none 0 0, .slice none 0 0] 28)) x mb :=
  ⟨((Blk.new w 23 _).alloc _).alloc _, (Blk.new_ _ _ _ (by simp)).alloc _, Blk.new_ _ _ _ (by simp), (((Below.refl _ _).alloc (Nat.le_refl _) _).alloc (by simp) _).alloc (by simp; omega) _, by simp⟩
theorem Mb.later {w0 w w' : World} {x : Sh} {mb : Array Value} (k : Mb w0 w x mb) (h : Below w.heap.size w w') (hs : w'.heap.size = w.heap.size) : Mb w0 w' x mb := ⟨k.sh.later h, k.mb.later h, k.res.later h, k.bel.trans (h.mono k.bel.size), hs.trans k.size⟩
theorem Mb.grow {w0 w : World} {x : Sh} {mb : Array Value} (k : Mb w0 w x mb) (sq sg ix : Int) {w' : World} (h : w' = (w.alloc (.cells #[.int .u64 sq, .int .i64 sg, .int .i64 ix, .slice none 0 0, .slice none 0 0] 28)).drew) : Mk w0 w' x mb sq sg ix (.slice none 0 0) [] (.slice none 0 0) [] := by
  subst h
  have hb : Below w.heap.size w (w.alloc (.cells #[.int .u64 sq, .int .i64 sg, .int .i64 ix, .slice none 0 0, .slice none 0 0] 28)).drew := below_drewN ((Below.refl _ _).alloc (Nat.le_refl _) _) 1
  refine ⟨k.sh.later hb, k.mb.later hb, k.res.later hb, ?_, World.ownsRow_nil _ _ _ _, World.ownsRow_nil _ _ _ _, k.bel.trans (hb.mono k.bel.size)⟩
  rw [← k.size]
  exact (Blk.new w 28 _).drew
theorem Mb.far {w0 w : World} {x : Sh} {a b c d e : Value} (k : Mb w0 w x #[a, b, c, d, e]) (o : Obj) :
    (w.alloc o).drew.cell? ⟨w0.heap.size, 2, none⟩ = some (.int .i64 x.s) ∧ (w.alloc o).drew.cell? ⟨w0.heap.size, 3, none⟩ = some (.int .i64 x.t) ∧ (w.alloc o).drew.cell? ⟨w0.heap.size + 1, 0, none⟩ = some a ∧ (w.alloc o).drew.cell? ⟨w0.heap.size + 1, 1, none⟩ = some b ∧ (w.alloc o).drew.cell? ⟨w0.heap.size + 1, 2, none⟩ = some c := by
  have h1 := ((k.sh.alloc o).drew).cells6
  have h2 := ((k.mb.alloc o).drew).cells5
  exact ⟨h1.2.2.1, h1.2.2.2.1, h2.1, h2.2.1, h2.2.2.1⟩
theorem sgM_ok (sg : Int) (s : Nat) (hs : 2 ≤ s) : (mxI sg (-1)).tmod (s : Int) = (sgM sg s : Int) - 1 := by
  unfold sgM mxI
  by_cases h : sg < 0
  · rw [if_pos h, show (if sg < -1 then -1 else sg) = -1 by split <;> omega, show (-1 : Int) = -((1 : Nat) : Int) from rfl, Int.neg_tmod, Int.tmod_eq_emod_of_nonneg (by omega), show ((1 : Nat) : Int) % (s : Int) = ((1 % s : Nat) : Int) from rfl, Nat.mod_eq_of_lt (by omega)]
    rfl
  · rw [if_neg h, if_neg (show ¬ sg < -1 by omega), Int.tmod_eq_emod_of_nonneg (by omega)]
    obtain ⟨n, hn⟩ : ∃ n : Nat, sg = n := ⟨sg.toNat, by omega⟩
    subst hn
    rw [show (n : Int) % (s : Int) = ((n % s : Nat) : Int) from rfl, Int.toNat_natCast]
    omega
theorem sgM_lt (sg : Int) (s : Nat) (hs : 1 ≤ s) : sgM sg s ≤ s := by
  unfold sgM
  split
  · omega
  · have := Nat.mod_lt sg.toNat (show 0 < s by omega)
    omega
theorem im_end4 {Q : Ending → World → Prop} (t : Array Value) (W : World) {R : Nat} {a b c d e : Value} (hb : Blk W R 28 #[a, b, c, d, e]) (h4 : t.getD 4 undef = .pointer (some ⟨R, 0, none⟩))
    (hQ : Q (.returned (.agg #[a, b, c, d, e])) W) : bodyPost Try.prog Try.f12 Q Exit.ret ⟨t, []⟩ W :=
  bodyPost_ret (results_cell_row (by kernel_rfl) t W R 28 #[a, b, c, d, e] (0, 0) _ h4 hb Try.underlying28 rfl (by kernel_rfl)) rfl hQ
attribute [local go_sem] go_max2 go_min2 go_max_two go_min_two
set_option maxRecDepth 100000 in
set_option maxHeartbeats 12800000 in
theorem make_ok (x : Sh) (y : Sml) (A B : Option Addr) (c d s t q l : Nat) (w : World) (hy : OkSml y) (hs : x.s = s) (ht : x.t = t) (hl : x.l = l) (hs1 : 2 ≤ s ∧ s ≤ 1000) (ht1 : 1 ≤ t ∧ t ≤ 1000) (hl1 : l ≤ 1000)
    (al1 sl1 : Nat) (ha : x.s * x.t = al1) (hb : x.m - 2 = sl1) (hq : al1 * sl1 = q) (hq1 : al1 ≤ 1000000 ∧ sl1 ≤ 1000 ∧ q ≤ 1000000)
    (ra : Rd w A (ces y.cs)) (rb : Rd w B (mus y.mp)) :
    Calls Try.prog 12 #[.agg #[.int .i64 x.m, .int .i64 x.b, .int .i64 x.s, .int .i64 x.t, .int .i64 x.n, .int .i64 x.l], .agg #[.int .u64 y.sq, .int .i8 y.sg, .int .u8 y.ix, .slice A y.cs.length c, .slice B y.mp.length d]] w fun e w' =>
      PicRes w' e (makeP y s t q l) ∧ Below w.heap.size w w' := by
  obtain ⟨sq, sg, ix, cs, mp⟩ := y
  obtain ⟨h1, h2, h3, h4, h5⟩ := hy
  simp only at h1 h2 h3 h4 h5 ra rb ⊢
  obtain ⟨P1, hP1⟩ : ∃ P1, P1 = makeP ⟨sq, sg, ix, cs, mp⟩ s t q l := ⟨_, rfl⟩
  rw [← hP1]
  have HP1 := Lib.hid hP1
  clear hP1
  have hall : ∀ W, Calls Try.prog 35 #[.agg #[.int .i64 x.m, .int .i64 x.b, .int .i64 x.s, .int .i64 x.t, .int .i64 x.n, .int .i64 x.l]] W fun e w' => e = .returned (.int .i64 (al1 : Int)) ∧ Below W.heap.size W w' := fun W =>
    Q.geom_Shape_All.calls _ _ _ _ _ _ _ W (by unfold Q.geom_Shape_All.f; rw [ha, wr64 (by omega) (by omega)])
  have hslo : ∀ W, Calls Try.prog 23 #[.agg #[.int .i64 x.m, .int .i64 x.b, .int .i64 x.s, .int .i64 x.t, .int .i64 x.n, .int .i64 x.l]] W fun e w' => e = .returned (.int .i64 (sl1 : Int)) ∧ Below W.heap.size W w' := fun W =>
    Q.geom_Shape_Slots.calls _ _ _ _ _ _ _ W (by unfold Q.geom_Shape_Slots.f; rw [hb, wr64 (by omega) (by omega)])
  have HALL := Lib.hid hall
  have HSLO := Lib.hid hslo
  have mq : IntKind.i64.wrap ((al1 : Int) * (sl1 : Int)) = (q : Int) := by rw [show (al1 : Int) * (sl1 : Int) = (q : Int) by rw [← hq]; rfl]; exact IntWalk.i64_in _ (by omega)
  have HS := Lib.hid hs
  have HT := Lib.hid ht
  have HL := Lib.hid hl
  have HRA := Lib.hid ra
  have HRB := Lib.hid rb
  have HC := Lib.hid h4
  have HM := Lib.hid h5
  obtain ⟨j0, hj0, y0, y1, y2⟩ := info_parts (show (Try.prog.info? 72).map (fun i => (i.zero, i.size, i.bytes)) = some (some (.agg #[.int .i64 0, .int .u64 0]), 2, 16) by kernel_rfl)
  obtain ⟨l0, hl0, x0, x1, x2⟩ := info_parts (show (Try.prog.info? 3).map (fun i => (i.zero, i.size, i.bytes)) = some (some (.int .i64 0), 1, 8) by kernel_rfl)
  clear hall hslo hs ht hl ra rb h4 h5 ha hb hq
  go_enter Try.func12, Try.ntmps12
  go_upto_region 1 with fail
  have hw0 : Hid (Mb w (((w.alloc (.cells #[.int .i64 x.m, .int .i64 x.b, .int .i64 x.s, .int .i64 x.t, .int .i64 x.n, .int .i64 x.l] 23)).alloc (.cells #[.int .u64 sq, .int .i8 sg, .int .u8 ix, .slice A cs.length c, .slice B mp.length d] 43)).alloc (.cells #[.int .u64 0, .int .i64 0, .int .i64 0, .slice none 0 0, .slice none 0 0] 28)) x #[.int .u64 sq, .int .i8 sg, .int .u8 ix, .slice A cs.length c, .slice B mp.length d]) := Lib.hid (Mb.start w x _)
  generalize ((w.alloc (.cells #[.int .i64 x.m, .int .i64 x.b, .int .i64 x.s, .int .i64 x.t, .int .i64 x.n, .int .i64 x.l] 23)).alloc (.cells #[.int .u64 sq, .int .i8 sg, .int .u8 ix, .slice A cs.length c, .slice B mp.length d] 43)).alloc (.cells #[.int .u64 0, .int .i64 0, .int .i64 0, .slice none 0 0, .slice none 0 0] 28) = W0 at hw0 ⊢
  obtain ⟨t0, t1, t2, t3, t4, t5⟩ := hw0.out.sh.cells6
  obtain ⟨m0, m1, m2, m3, m4⟩ := hw0.out.mb.cells5
  have hmd : Mb w W0.drew x _ := hw0.out.later (below_drewN (Below.refl _ _) 1) rfl
  obtain ⟨td0, td1, td2, td3, td4, td5⟩ := hmd.sh.cells6
  obtain ⟨md0, md1, md2, md3, md4⟩ := hmd.mb.cells5
  have hma := fun o => hw0.out.far o
  have ta2 := fun o => (hma o).1
  have ta3 := fun o => (hma o).2.1
  have ma0 := fun o => (hma o).2.2.1
  have ma1 := fun o => (hma o).2.2.2.1
  have ma2 := fun o => (hma o).2.2.2.2
  clear hma hmd
  obtain ⟨mm, hmm⟩ : ∃ mm, mm = mxI sg (-1) := ⟨_, rfl⟩
  have hz1 : mm.tmod x.s = (sgM sg s : Int) - 1 := by rw [hmm, HS.out]; exact sgM_ok sg s hs1.1
  have hz2 : (ix : Int).tmod x.t = ((ix % t : Nat) : Int) := by rw [HT.out, Int.tmod_eq_emod_of_nonneg (by omega)]; rfl
  have hz3 : (ix : Int) % x.t = ((ix % t : Nat) : Int) := by rw [HT.out]; rfl
  have hx3 : (x.s == 0) = false := by rw [HS.out]; simp; omega
  have hx4 : (x.t == 0) = false := by rw [HT.out]; simp; omega
  have hx5 : x.s ≠ 0 := by rw [HS.out]; omega
  have hx6 : x.t ≠ 0 := by rw [HT.out]; omega
  obtain ⟨sg2, hsg2⟩ : ∃ n, n = sgM sg s := ⟨_, rfl⟩
  obtain ⟨ix2, hix2⟩ : ∃ n, n = ix % t := ⟨_, rfl⟩
  have hsb : sg2 ≤ 1000 := by rw [hsg2]; have := sgM_lt sg s (by omega); omega
  have hib : ix2 < t := by rw [hix2]; exact Nat.mod_lt _ (by omega)
  rw [← hsg2] at hz1
  rw [← hix2] at hz2 hz3
  have HSG2 := Lib.hid hsg2
  have HIX2 := Lib.hid hix2
  have hmx : mxI sg (-1) = mm := hmm.symm
  have hmb : -1 ≤ mm ∧ mm ≤ 127 := by rw [hmm]; unfold mxI; split <;> omega
  have w1 : IntKind.i64.wrap sg = sg := IntWalk.i64_in _ (by omega)
  have w2 : IntKind.i64.wrap (ix : Int) = ix := IntWalk.i64_in _ (by omega)
  clear hsg2 hix2 hmm
  go_cut [5] (fun p wx => p = .pointer (some ⟨w.heap.size + 3, 0, none⟩) ∧ Mk w wx x #[.int .u64 sq, .int .i8 sg, .int .u8 ix, .slice A cs.length c, .slice B mp.length d] sq ((sg2 : Int) - 1) ix2 (.slice none 0 0) [] (.slice none 0 0) [])
  case first =>
    go_region
    all_goals
      go_wp2_with fail
      go_meet
      refine ⟨by rw [hw0.out.size], hw0.out.grow _ _ _ rfl⟩
  case rest =>
    clear t0 t1 t2 t3 t4 t5 m0 m1 m2 m3 m4 td0 td1 td2 td3 td4 td5 md0 md1 md2 md3 md4 ta2 ta3 ma0 ma1 ma2 hw0 hz1 hz2 hz3 hx3 hx4 hx5 hx6 hmx w1 w2 hmb
    obtain ⟨rfl, hM⟩ := hcut
    have HMK := Lib.hid hM
    clear hM
    obtain ⟨t0, t1, t2, t3, t4, t5⟩ := HMK.out.sh.cells6
    go_wp2_with fail
    clear t0 t1 t2 t3 t4 t5
    go_loopw [6, 7, 28] (fun _ _ i wr => ∃ k v3, k ≤ s ∧ i = .int .i64 (k : Nat) ∧ Mk w wr x #[.int .u64 sq, .int .i8 sg, .int .u8 ix, .slice A cs.length c, .slice B mp.length d] sq ((sg2 : Int) - 1) ix2 v3 (segsM cs k) (.slice none 0 0) []) (fun _ _ i _ => s - (intOf i).toNat)
    case atStart => exact ⟨0, _, by omega, rfl, HMK.out⟩
    case round =>
      clear HMK
      rename World => w9
      obtain ⟨k, v3, hk2, rfl, hM⟩ := hrel
      have HMK := Lib.hid hM
      by_cases hlt : k < s
      · have g1 : (k : Int) < x.s := by have := HS.out; omega
        have hn3 := hM.r3
        rw [segsM_len] at hn3
        obtain ⟨A3, c3, rfl, -, -, -⟩ := own_formc hn3
        have hne : ∀ b, (Value.slice A3 k c3).ownBlock = some b → b ≠ w9.heap.size := fun b hb => by have := (hn3.lt b hb).2; omega
        have q6 := hM.im.cells5.2.2.2.1
        obtain ⟨t0, t1, t2, t3, t4, t5⟩ := HMK.out.sh.cells6
        obtain ⟨m0, m1, m2, m3, m4⟩ := HMK.out.mb.cells5
        clear hM hn3
        go_upto_region 6 with fail
        have HNE := Lib.hid hne
        clear hne
        have hbel : Below w9.heap.size w9 (w9.alloc (.cells #[.int .i64 0, .int .u64 0] 72)) := (Below.refl _ _).alloc (Nat.le_refl _) _
        have HMK1 := Lib.hid (HMK.out.later hbel)
        have HY := Lib.hid (Blk.new w9 72 #[.int .i64 0, .int .u64 0])
        have hyb : w.heap.size + 4 ≤ w9.heap.size := HMK.out.big
        generalize w9.alloc (.cells #[.int .i64 0, .int .u64 0] 72) = W1 at HMK1 HY ⊢
        obtain ⟨Y, hY⟩ : ∃ Y, Y = w9.heap.size := ⟨_, rfl⟩
        rw [← hY] at HY HNE hyb ⊢
        clear hY hbel t0 t1 t2 t3 t4 t5 m0 m1 m2 m3 m4 q6
        obtain ⟨m0, m1, m2, m3, m4⟩ := HMK1.out.mb.cells5
        by_cases hlc : k < cs.length
        · obtain ⟨ce, hce⟩ : ∃ ce, cs[k]? = some ce := ⟨_, List.getElem?_eq_getElem hlc⟩
          obtain ⟨ad, rfl, c0, c1⟩ := ces_at (HRA.out.later (HMK1.out.bel.trans (below_drewN (Below.refl _ _) 1))) hce
          obtain ⟨b0, b1⟩ := HC.out ce (List.mem_of_getElem? hce)
          have g2 : (k : Int) < cs.length := by omega
          obtain ⟨ad', hae, cc0, cc1⟩ := ces_at (HRA.out.later HMK1.out.bel) hce
          injection hae with hae
          subst hae
          have hsm : segM cs k = (ce.1 % 3, ce.2) := by unfold segM; rw [List.getD_eq_getElem?_getD, hce]; rfl
          have e1 : IntKind.i64.wrap ((ce.1 : Int) % 3) = (ce.1 : Int) % 3 := IntWalk.i64_in _ (by omega)
          have md3 := ((HMK1.out.mb).drew).cells5.2.2.2.1
          obtain ⟨y3, y4⟩ := (HY.out.drew).cells2
          have f0 := HY.out.drew.frozen 0
          have f1 := HY.out.drew.frozen 1
          obtain ⟨y5, y6⟩ := HY.out.cells2
          have f2 := HY.out.frozen 0
          have f3 := HY.out.frozen 1
          clear hce
          go_wp2_with fail
          go_region
          clear e1
          obtain ⟨n1, hn1⟩ : ∃ n1, n1 = ce.1 % 3 := ⟨_, rfl⟩
          obtain ⟨n2, hn2⟩ : ∃ n2, n2 = ce.2 := ⟨_, rfl⟩
          rw [← hn1, ← hn2] at hsm
          have HSM := Lib.hid hsm
          have e1 : (ce.1 : Int) % 3 = (n1 : Int) := by rw [hn1]; rfl
          have hW2 : Fr (· = Y) W1 ((W1.setCell ⟨Y, 0, none⟩ (.int .i64 (n1 : Int))).setCell ⟨Y, 1, none⟩ (.int .u64 n2)).drew := (((Fr.refl (· = Y) W1).setCell (p := ⟨Y, 0, none⟩) (.inl rfl) _).setCell (p := ⟨Y, 1, none⟩) (.inl rfl) _).drew
          have HMK2 := Lib.hid (HMK1.out.box hW2 hyb HNE.out (fun b hb => by cases hb))
          have HY2 : Hid (Blk ((W1.setCell ⟨Y, 0, none⟩ (.int .i64 (n1 : Int))).setCell ⟨Y, 1, none⟩ (.int .u64 n2)).drew Y 72 #[.int .i64 n1, .int .u64 n2]) := Lib.hid ((HY.out.set_ 0 _).set_ 1 _).drew
          rw [e1, ← hn2]
          generalize ((W1.setCell ⟨Y, 0, none⟩ (.int .i64 (n1 : Int))).setCell ⟨Y, 1, none⟩ (.int .u64 n2)).drew = W2 at HMK2 HY2 ⊢
          have hro := HMK2.out.r3
          rw [segsM_len] at hro
          have HROW2 := Lib.hid hro
          have q7 := HMK2.out.im.cells5.2.2.2.1
          obtain ⟨z5, z6⟩ := HY2.out.cells2
          clear e1 hW2 hn1 hn2 hsm hro m0 m1 m2 m3 m4 md3 c0 c1 cc0 cc1 y3 y4 y5 y6 f0 f1 f2 f3 b0 b1
          go_wp2_with (at_builtin; refine wpList_append_any _ rfl _ _ 25 rfl (w.heap.size + 4) 72 j0 _ 2 16 Try.underlying25 hj0 y0 y1 y2 rfl (by decide) _ k (sgs (segsM cs k)) rfl (HROW2.out.alloc _) (some ⟨W2.heap.size, 0, none⟩) 1 1 (sgv (n1, n2)) rfl rfl (Rd.blk_all (Blk.new _ _ _)) (by intro u hu; simp [sgv] at hu; rcases hu with rfl | rfl <;> rfl) (by unfold maxLen; omega) (by omega) (by have := HMK2.out.big; simp; omega) ?_; intro v8 w8 hown8 hg8 hat8; obtain ⟨A9, c9, rfl, -, -, -⟩ := own_formc hown8; obtain ⟨p8, f8⟩ := HMK2.out.open3 ((Below.refl W2.heap.size W2).alloc (Nat.le_refl _) _) hg8; have HP := Lib.hid (HMK2.out.push3 ((Below.refl W2.heap.size W2).alloc (Nat.le_refl _) _) hg8 (n1, n2) (by rw [segsM_len]; exact hown8)); clear hown8 hg8 hat8)
          go_roundw
          case rel => exact ⟨k + 1, _, by omega, by go_num, by rw [segsM_snoc, HSM.out]; exact HP.out⟩
          case measure => simp [intOf]; omega
        · have g2 : ¬ (k : Int) < cs.length := by omega
          obtain ⟨n1, hn1⟩ : ∃ n1 : Nat, n1 = 0 := ⟨_, rfl⟩
          obtain ⟨n2, hn2⟩ : ∃ n2 : Nat, n2 = 0 := ⟨_, rfl⟩
          have hsm : segM cs k = (n1, n2) := by unfold segM; rw [List.getD_eq_getElem?_getD, List.getElem?_eq_none (by omega), hn1, hn2]; rfl
          have HY2 : Hid (Blk W1 Y 72 #[.int .i64 n1, .int .u64 n2]) := Lib.hid (by rw [hn1, hn2]; exact HY.out)
          have HSM := Lib.hid hsm
          have HMK2 := HMK1
          clear HMK1 HY
          generalize W1 = W2 at HMK2 HY2 m0 m1 m2 m3 m4 ⊢
          have hro := HMK2.out.r3
          rw [segsM_len] at hro
          have HROW2 := Lib.hid hro
          have q7 := HMK2.out.im.cells5.2.2.2.1
          obtain ⟨z5, z6⟩ := HY2.out.cells2
          clear hn1 hn2 hsm hro
          go_wp2_with (at_builtin; refine wpList_append_any _ rfl _ _ 25 rfl (w.heap.size + 4) 72 j0 _ 2 16 Try.underlying25 hj0 y0 y1 y2 rfl (by decide) _ k (sgs (segsM cs k)) rfl (HROW2.out.alloc _) (some ⟨W2.heap.size, 0, none⟩) 1 1 (sgv (n1, n2)) rfl rfl (Rd.blk_all (Blk.new _ _ _)) (by intro u hu; simp [sgv] at hu; rcases hu with rfl | rfl <;> rfl) (by unfold maxLen; omega) (by omega) (by have := HMK2.out.big; simp; omega) ?_; intro v8 w8 hown8 hg8 hat8; obtain ⟨A9, c9, rfl, -, -, -⟩ := own_formc hown8; obtain ⟨p8, f8⟩ := HMK2.out.open3 ((Below.refl W2.heap.size W2).alloc (Nat.le_refl _) _) hg8; have HP := Lib.hid (HMK2.out.push3 ((Below.refl W2.heap.size W2).alloc (Nat.le_refl _) _) hg8 (n1, n2) (by rw [segsM_len]; exact hown8)); clear hown8 hg8 hat8)
          go_roundw
          case rel => exact ⟨k + 1, _, by omega, by go_num, by rw [segsM_snoc, HSM.out]; exact HP.out⟩
          case measure => simp [intOf]; omega
      · obtain rfl : k = s := by omega
        have g1 : ¬ (k : Int) < x.s := by have := HS.out; omega
        obtain ⟨t0, t1, t2, t3, t4, t5⟩ := HMK.out.sh.cells6
        obtain ⟨ss, hss⟩ : ∃ ss, ss = segsM cs k := ⟨_, rfl⟩
        rw [← hss] at HMK
        have HSS := Lib.hid hss
        clear hss hM
        go_wp2_with fail
        clear t0 t1 t2 t3 t4 t5
        go_loopw [8, 9, 61] (fun _ _ i wr => ∃ j v4, j ≤ l ∧ i = .int .i64 (j : Nat) ∧ Mk w wr x #[.int .u64 sq, .int .i8 sg, .int .u8 ix, .slice A cs.length c, .slice B mp.length d] sq ((sg2 : Int) - 1) ix2 v3 ss v4 (mapsM mp q j)) (fun _ _ i _ => l - (intOf i).toNat)
        case atStart => exact ⟨0, _, by omega, rfl, HMK.out⟩
        case round =>
          clear HMK
          rename World => w8
          obtain ⟨j, v4, hj2, rfl, hM⟩ := hrel
          have HMK := Lib.hid hM
          by_cases hlt2 : j < l
          · have g2 : (j : Int) < x.l := by have := HL.out; omega
            have hn4 := hM.r4
            rw [mapsM_len] at hn4
            obtain ⟨A4, c4, rfl, -, -, -⟩ := own_formc hn4
            have HRO := Lib.hid hn4
            obtain ⟨m0, m1, m2, m3, m4⟩ := HMK.out.mb.cells5
            clear hM hn4
            by_cases hlm : j < mp.length
            · obtain ⟨p, hp⟩ : ∃ p, mp[j]? = some p := ⟨_, List.getElem?_eq_getElem hlm⟩
              obtain ⟨bd, rfl, c0⟩ := mus_at (HRB.out.later HMK.out.bel) hp
              have hrb : ∀ W, Below w.heap.size w W → W.cell? (bd.add j) = some (.int .u16 p) := fun W h => by
                obtain ⟨bd', hae, h1⟩ := mus_at (HRB.out.later h) hp
                injection hae with hae
                subst hae
                exact h1
              have HRBW := Lib.hid hrb
              have b0 := HM.out p (List.mem_of_getElem? hp)
              have hsm : mapM mp q j = p % (q + 1) := by unfold mapM; rw [List.getD_eq_getElem?_getD, hp]; rfl
              have g3 : (j : Int) < mp.length := by omega
              have g4 : (0 : Int) ≤ j := by omega
              obtain ⟨n1, hn1⟩ : ∃ n1, n1 = p % (q + 1) := ⟨_, rfl⟩
              have z1 : (p : Int).tmod ((q : Int) + 1) = (n1 : Int) := by rw [Int.tmod_eq_emod_of_nonneg (by omega), hn1]; rfl
              have z2 : (p : Int) % ((q : Int) + 1) = (n1 : Int) := by rw [hn1]; rfl
              have z3 : ((q : Int) + 1 == 0) = false := by simp; omega
              have z4 : (q : Int) + 1 ≠ 0 := by omega
              have z5 : IntKind.i64.wrap ((q : Int) + 1) = (q : Int) + 1 := IntWalk.i64_in _ (by omega)
              have z6 : IntKind.i64.wrap (p : Int) = (p : Int) := IntWalk.i64_in _ (by omega)
              have z7 : n1 ≤ 1000000 := by rw [hn1]; have := Nat.mod_lt p (show 0 < q + 1 by omega); omega
              have z8 : IntKind.i64.wrap ((n1 : Int) - 1) = (n1 : Int) - 1 := IntWalk.i64_in _ (by omega)
              have z9 : IntKind.i64.wrap (n1 : Int) = (n1 : Int) := IntWalk.i64_in _ (by omega)
              rw [← hn1] at hsm
              have HSM := Lib.hid hsm
              clear hp hrb hsm hn1
              go_upto_region 15 with fail
              have HMKd := Lib.hid (HMK.out.later (below_drewN (Below.refl _ _) 1))
              have hd0 : w8.drew.cell? (bd.add j) = some (.int .u16 p) := HRBW.out _ HMKd.out.bel
              have hd1 : w8.drew.cell? ⟨w.heap.size + 1, 4, none⟩ = some (.slice (some bd) mp.length d) := HMKd.out.mb.cells5.2.2.2.2
              obtain ⟨d0, d1, d2, d3, d4, d5⟩ := (HMKd.out : Mk w w8.drew _ _ _ _ _ _ _ _ _).sh.cells6
              obtain ⟨t0, t1, t2, t3, t4, t5⟩ := HMK.out.sh.cells6
              go_cut [9] (fun o wx => o = .int .i64 ((n1 : Int) - 1) ∧ Mk w wx x #[.int .u64 sq, .int .i8 sg, .int .u8 ix, .slice A cs.length c, .slice (some bd) mp.length d] sq ((sg2 : Int) - 1) ix2 v3 ss (.slice A4 j c4) (mapsM mp q j))
              case first =>
                go_region_held3 (fun w' => w'.cell? (bd.add j) = some (.int .u16 p) ∧ w'.cell? ⟨w.heap.size + 1, 4, none⟩ = some (.slice (some bd) mp.length d) ∧ w'.cell? ⟨w.heap.size, 0, none⟩ = some (.int .i64 x.m) ∧ w'.cell? ⟨w.heap.size, 1, none⟩ = some (.int .i64 x.b) ∧ w'.cell? ⟨w.heap.size, 2, none⟩ = some (.int .i64 x.s) ∧ w'.cell? ⟨w.heap.size, 3, none⟩ = some (.int .i64 x.t) ∧ w'.cell? ⟨w.heap.size, 4, none⟩ = some (.int .i64 x.n) ∧ w'.cell? ⟨w.heap.size, 5, none⟩ = some (.int .i64 x.l))
                  (exact ⟨by assumption, by assumption, by assumption, by assumption, by assumption, by assumption, by assumption, by assumption⟩)
                  (first
                    | (go_at_call 35; (with_reducible refine (HALL.out w8.drew).mono ?_); rintro e u1 ⟨rfl, hb1⟩; have HMa := Lib.hid (HMKd.out.later hb1); clear hb1; obtain ⟨a0, a1, a2, a3, a4, a5⟩ := HMa.out.sh.cells6; have a6 := HRBW.out _ HMa.out.bel; have a7 := HMa.out.mb.cells5.2.2.2.2)
                    | (go_at_call 23; (with_reducible refine (HSLO.out u1).mono ?_); rintro e u2 ⟨rfl, hb2⟩; have HMb := Lib.hid (HMa.out.later hb2); clear hb2; obtain ⟨b0, b1, b2, b3, b4, b5⟩ := HMb.out.sh.cells6; have b6 := HRBW.out _ HMb.out.bel; have b7 := HMb.out.mb.cells5.2.2.2.2)
                    | fail "no arm")
                all_goals
                  go_wp2_with fail
                  go_meet
                  exact ⟨rfl, HMb.out⟩
              case rest =>
                clear t0 t1 t2 t3 t4 t5 d0 d1 d2 d3 d4 d5 hd0 hd1 m0 m1 m2 m3 m4 HMKd HMK c0 z1 z2 z3 z4 z5 z6
                obtain ⟨rfl, hM⟩ := hcut
                rename World => W2
                have HMK2 := Lib.hid hM
                have hro := hM.r4
                rw [mapsM_len] at hro
                have HRO2 := Lib.hid hro
                have q7 := hM.im.cells5.2.2.2.2
                clear hM hro
                go_wp2_with (at_builtin; refine wpList_append_any _ rfl _ _ 26 rfl (w.heap.size + 4) 3 l0 _ 1 8 Try.underlying26 hl0 x0 x1 x2 rfl (by decide) _ j (mps (mapsM mp q j)) rfl (HRO2.out.alloc _) (some ⟨W2.heap.size, 0, none⟩) 1 1 [.int .i64 ((n1 : Int) - 1)] rfl rfl (Rd.one _ _ _ rfl) (by intro u hu; simp at hu; subst hu; rfl) (by unfold maxLen; omega) (by omega) (by have := HMK2.out.big; simp; omega) ?_; intro v8 w8 hown8 hg8 hat8; obtain ⟨A9, c9, rfl, -, -, -⟩ := own_formc hown8; obtain ⟨p8, f8⟩ := HMK2.out.open4 ((Below.refl W2.heap.size W2).alloc (Nat.le_refl _) _) hg8; have HP := Lib.hid (HMK2.out.push4 ((Below.refl W2.heap.size W2).alloc (Nat.le_refl _) _) hg8 n1 (by rw [mapsM_len]; exact hown8)); clear hown8 hg8 hat8)
                go_roundw
                case rel => exact ⟨j + 1, _, by omega, by go_num, by rw [mapsM_snoc, HSM.out]; exact HP.out⟩
                case measure => simp [intOf]; omega
            · have g3 : ¬ (j : Int) < mp.length := by omega
              have hsm : mapM mp q j = 0 := by unfold mapM; rw [List.getD_eq_getElem?_getD, List.getElem?_eq_none (by omega)]; exact Nat.zero_mod _
              have HSM := Lib.hid hsm
              have HMK2 := HMK
              have HRO2 := HRO
              have q7 := HMK.out.im.cells5.2.2.2.2
              clear hsm HMK HRO
              generalize w8 = W2 at HMK2 HRO2 m0 m1 m2 m3 m4 q7 ⊢
              go_wp2_with (at_builtin; refine wpList_append_any _ rfl _ _ 26 rfl (w.heap.size + 4) 3 l0 _ 1 8 Try.underlying26 hl0 x0 x1 x2 rfl (by decide) _ j (mps (mapsM mp q j)) rfl (HRO2.out.alloc _) (some ⟨W2.heap.size, 0, none⟩) 1 1 [.int .i64 (-1)] rfl rfl (Rd.one _ _ _ rfl) (by intro u hu; simp at hu; subst hu; rfl) (by unfold maxLen; omega) (by omega) (by have := HMK2.out.big; simp; omega) ?_; intro v8 w8 hown8 hg8 hat8; rw [show (-1 : Int) = ((0 : Nat) : Int) - 1 from rfl] at hown8; obtain ⟨A9, c9, rfl, -, -, -⟩ := own_formc hown8; obtain ⟨p8, f8⟩ := HMK2.out.open4 ((Below.refl W2.heap.size W2).alloc (Nat.le_refl _) _) hg8; have HP := Lib.hid (HMK2.out.push4 ((Below.refl W2.heap.size W2).alloc (Nat.le_refl _) _) hg8 0 (by rw [mapsM_len]; exact hown8)); clear hown8 hg8 hat8)
              go_roundw
              case rel => exact ⟨j + 1, _, by omega, by go_num, by rw [mapsM_snoc, HSM.out]; exact HP.out⟩
              case measure => simp [intOf]; omega
          · obtain rfl : j = l := by omega
            have g2 : ¬ (j : Int) < x.l := by have := HL.out; omega
            have hn3 := hM.r3
            rw [HSS.out, segsM_len] at hn3
            obtain ⟨A3, c3, rfl, -, -, -⟩ := own_formc hn3
            have hn4 := hM.r4
            rw [mapsM_len] at hn4
            obtain ⟨A4, c4, rfl, -, -, -⟩ := own_formc hn4
            obtain ⟨m0, m1, m2, m3, m4⟩ := HMK.out.im.cells5
            obtain ⟨r0, r1, r2, r3, r4⟩ := HMK.out.res.cells5
            have f0 := HMK.out.res.frozen 0
            have f1 := HMK.out.res.frozen 1
            have f2 := HMK.out.res.frozen 2
            have f3 := HMK.out.res.frozen 3
            have f4 := HMK.out.res.frozen 4
            clear hM hn3 hn4
            go_wp2_with fail
            obtain ⟨d1, d2, d3, d4⟩ := HMK.out.done
            refine im_end4 _ _ d1 rfl ⟨?_, d4⟩
            rw [HP1.out]
            unfold makeP
            simp only
            rw [← HSG2.out, ← HIX2.out, ← HSS.out]
            rw [show ss.length = k by rw [HSS.out, segsM_len]] at d2
            rw [mapsM_len] at d3
            have hd2 := Rd.of_own d2
            have hd3 := Rd.of_own d3
            refine ⟨A3, c3, A4, c4, ?_, hd2, hd3⟩
            simp only [mapsM_len]
            rw [HSS.out, segsM_len]
end Go.Proofs.Ytcpngnnnggpfpaa
