/- Decode: the words. No further condition. -/
import Derived.Test.YtcpngnnnggpfpaaIo
namespace Go.Proofs.Ytcpngnnnggpfpaa
open Go.RowKit

/-! ### plain: what is read of pages -/
def rep1 (n : Nat) (f : Nat → Nat) : List Nat := (List.range n).map f
def segAt (all : List Int) (i : Nat) : Nat × Nat := (nf all (12 + 9 * i) 1, nf all (13 + 9 * i) 8)
def segsAt (all : List Int) (n : Nat) : List (Nat × Nat) := (List.range n).map (segAt all)
def mapAt (all : List Int) (s j : Nat) : Nat := nf all (12 + 9 * s + 4 * j) 4
def mapsAt (all : List Int) (s n : Nat) : List Nat := (List.range n).map (mapAt all s)
theorem segsAt_snoc (all : List Int) (n : Nat) : segsAt all (n + 1) = segsAt all n ++ [segAt all n] := by simp [segsAt, List.range_succ]
theorem mapsAt_snoc (all : List Int) (s n : Nat) : mapsAt all s (n + 1) = mapsAt all s n ++ [mapAt all s n] := by simp [mapsAt, List.range_succ]
theorem segsAt_len (all : List Int) (n : Nat) : (segsAt all n).length = n := by simp [segsAt]
theorem mapsAt_len (all : List Int) (s n : Nat) : (mapsAt all s n).length = n := by simp [mapsAt]
def picAt (all : List Int) (s l : Nat) : Pic := ⟨nf all 0 8, nf all 8 2, nf all 10 2, segsAt all s, mapsAt all s l⟩
def zer (xs : List Int) : Bool := xs.all fun c => c == 0
/-- May such an image be, of a shape of so many segments, stripes, places? -/
def picB (s t q : Nat) (all : List Int) (l : Nat) : Bool :=
  decide (((picAt all s l).sg : Int) - 1 < s) && decide ((picAt all s l).ix < t) && (picAt all s l).cs.all (fun c => decide (c.1 ≤ 2)) && (picAt all s l).mp.all (fun p => decide ((p : Int) - 1 < q)) && zer (all.drop (12 + 9 * s + 4 * l))
/-- The first page that is none. -/
def firstC (gen g : Nat) : Nat → List (List Int) → Int
  | _, [] => 0
  | i, b :: r => if oneC gen g i b = 0 then firstC gen g (i + 1) r else oneC gen g i b
def restsL (g : Nat) (l : List (List Int)) : List Int := l.flatMap (restL g)
def zeroPic : Pic := ⟨0, 1, 0, [], []⟩
def decC (gen g P s t q l : Nat) (pg : List (List Int)) : Int :=
  if pg.length = P then (if firstC gen g 0 pg = 0 then (if picB s t q (restsL g pg) l = true then 0 else 4) else firstC gen g 0 pg) else 6
def decP (gen g P s t q l : Nat) (pg : List (List Int)) : Pic := if decC gen g P s t q l pg = 0 then picAt (restsL g pg) s l else zeroPic

/-! ### the blocks -/
theorem Re.fr_ {w w' : World} {g h : Nat} {xs : List Int} {bad : Bool} {S : Nat → Prop} (k : Re w g h xs bad) (f : Fr S w w') (hg : ¬ S g) (hh : ¬ S h) : Re w' g h xs bad := by
  obtain ⟨o, c, k1, k2, k3, k4⟩ := k.form
  exact ⟨o, c, k1.fr f hg, k2.fr f (fun ad e => by injection e with e; subst e; exact hh), k3, k4⟩
theorem Re.blk {w : World} {g h : Nat} {zs : List Int} {bad : Bool} (k : Re w g h zs bad) : ∃ cs, Blk w g 86 cs := by
  obtain ⟨o, c, k1, -, -, -⟩ := k.form
  exact ⟨_, k1⟩
theorem Re.lt {w : World} {g h : Nat} {zs : List Int} {bad : Bool} (k : Re w g h zs bad) (hz : 0 < zs.length) : h < w.heap.size := by
  obtain ⟨o, c, -, k2, -, -⟩ := k.form
  obtain ⟨ad, e, hc⟩ := k2 0 (.int .u8 zs[0]) (by simp [byv])
  injection e with e
  subst e
  have := World.block_lt_of_cell? w _ hc
  rw [block_of_add] at this
  exact this
/-- Behind a call: an image, and an error's number. -/
def ImRes (b : Nat) (w' : World) (e : Ending) (y : Pic) (code : Int) : Prop :=
  ∃ A c B d, e = .returned (.tuple #[.agg #[.int .u64 y.sq, .int .i64 ((y.sg : Int) - 1), .int .i64 y.ix, .slice A y.cs.length c, .slice B y.mp.length d], .int .i64 code]) ∧ Rd w' A (sgs y.cs) ∧ Rd w' B (mps y.mp) ∧ (∀ ad, A = some ad → b ≤ ad.block) ∧ (∀ ad, B = some ad → b ≤ ad.block)
theorem imRes_zero (b : Nat) (w : World) (code : Int) : ImRes b w (.returned (.tuple #[.agg #[.int .u64 0, .int .i64 0, .int .i64 0, .slice none 0 0, .slice none 0 0], .int .i64 code])) zeroPic code :=
  ⟨none, 0, none, 0, rfl, Rd.nil _ _, Rd.nil _ _, fun _ (e : (none : Option Addr) = some _) => (by cases e), fun _ (e : (none : Option Addr) = some _) => (by cases e)⟩
theorem set5 (a b c d e x y z u v : Value) : (((((#[a, b, c, d, e] : Array Value).setIfInBounds 0 x).setIfInBounds 1 y).setIfInBounds 2 z).setIfInBounds 3 u).setIfInBounds 4 v = #[x, y, z, u, v] := rfl
theorem im_set {w : World} {R : Nat} {a b c d e : Value} (k : Blk w R 28 #[a, b, c, d, e]) (x y z u v : Value) :
    Blk (((((w.setCell ⟨R, 0, none⟩ x).setCell ⟨R, 1, none⟩ y).setCell ⟨R, 2, none⟩ z).setCell ⟨R, 3, none⟩ u).setCell ⟨R, 4, none⟩ v) R 28 #[x, y, z, u, v] ∧
    Fr (fun b => b = R) w (((((w.setCell ⟨R, 0, none⟩ x).setCell ⟨R, 1, none⟩ y).setCell ⟨R, 2, none⟩ z).setCell ⟨R, 3, none⟩ u).setCell ⟨R, 4, none⟩ v) := by
  refine ⟨?_, Fr.setCell (Fr.setCell (Fr.setCell (Fr.setCell (Fr.setCell (Fr.refl (fun b => b = R) w) (p := ⟨R, 0, none⟩) (.inl rfl) _) (p := ⟨R, 1, none⟩) (.inl rfl) _) (p := ⟨R, 2, none⟩) (.inl rfl) _) (p := ⟨R, 3, none⟩) (.inl rfl) _) (p := ⟨R, 4, none⟩) (.inl rfl) _⟩
  have := ((((k.set_ 0 x).set_ 1 y).set_ 2 z).set_ 3 u).set_ 4 v
  rw [set5] at this
  exact this
theorem im_end {Q : Ending → World → Prop} (t : Array Value) (W : World) {R : Nat} {a b c d e : Value} (hb : Blk W R 28 #[a, b, c, d, e]) {code : Int} (h4 : t.getD 6 undef = .pointer (some ⟨R, 0, none⟩)) (h5 : t.getD 7 undef = .int .i64 code)
    (hQ : Q (.returned (.tuple #[.agg #[a, b, c, d, e], .int .i64 code])) W) : bodyPost Try.prog Try.f10 Q Exit.ret ⟨t, []⟩ W :=
  bodyPost_ret (results_cell2_row (fn := Try.f10) (p := 6) (u := 7) (ty := 28) (by kernel_rfl) _ h4 hb Try.underlying28 rfl (by kernel_rfl)) rfl (by rw [h5]; exact hQ)
/-- The shape's block, the result's, the reader. -/
structure Dp (w0 w : World) (S R g h : Nat) (x : Sh) (zs : List Int) : Prop where
  sh : Blk w S 23 #[.int .i64 x.m, .int .i64 x.b, .int .i64 x.s, .int .i64 x.t, .int .i64 x.n, .int .i64 x.l]
  res : Blk w R 28 #[.int .u64 0, .int .i64 0, .int .i64 0, .slice none 0 0, .slice none 0 0]
  re : Re w g h zs false
  bel : Below w0.heap.size w0 w
  far : w0.heap.size ≤ R ∧ w0.heap.size ≤ g ∧ h < w.heap.size
/-- And the image that is made, with its rows. -/
structure Dq (w0 w : World) (B S R X g h : Nat) (x : Sh) (sq sg ix : Int) (v3 : Value) (cs : List (Nat × Nat)) (v4 : Value) (ms : List Nat) (zs : List Int) : Prop where
  dp : Dp w0 w S R g h x zs
  im : Blk w X 28 #[.int .u64 sq, .int .i64 sg, .int .i64 ix, v3, v4]
  r3 : w.ownsRow B 72 2 v3 cs.length (sgs cs)
  r4 : w.ownsRow B 3 1 v4 ms.length (mps ms)
  far : S < X ∧ R < X ∧ g < X ∧ h < X ∧ X < B
section
variable {w0 w w' W : World} {B S R X g h : Nat} {x : Sh} {sq sg ix : Int} {v3 v3' v4 v4' : Value} {cs : List (Nat × Nat)} {ms : List Nat} {zs zs' ys : List Int}
theorem Dp.later (k : Dp w0 w S R g h x zs) (hb : Below w.heap.size w w') : Dp w0 w' S R g h x zs := ⟨k.sh.later hb, k.res.later hb, k.re.later hb, k.bel.trans (hb.mono k.bel.size), k.far.1, k.far.2.1, Nat.lt_of_lt_of_le k.far.2.2 hb.size⟩
theorem Dp.took (k : Dp w0 w S R g h x zs) (hr : Re w' g h zs' false) (hf : Fr (· = g) w w') : Dp w0 w' S R g h x zs' := by
  obtain ⟨c, hb⟩ := k.re.blk
  exact ⟨k.sh.fr hf (Blk.ne_ k.sh hb (by decide)), k.res.fr hf (Blk.ne_ k.res hb (by decide)), hr, k.bel.trans (hf.toBelow k.bel.size fun b hb e => by have := k.far.2.1; omega), k.far.1, k.far.2.1, Nat.lt_of_lt_of_le k.far.2.2 hf.size⟩
theorem takeP {i : Nat} (k : Dp w0 w S R g h x (ys.drop i)) (n : Nat) (z : Int) (hz : z = n) (hn : i + n ≤ ys.length) (hy : ys.length ≤ 1000000) (ho : Oct ys) :
    Calls Try.prog 34 #[.pointer (some ⟨g, 0, none⟩), .int .i64 z] w fun e w' => e = .returned (.int .u64 (nf ys i n)) ∧ Dp w0 w' S R g h x (ys.drop (i + n)) := by
  subst hz
  refine (take_ok g h (ys.drop i) n w k.re (by rw [List.length_drop]; omega) (by rw [List.length_drop]; omega) (ho.drop i)).mono ?_
  rintro e w' ⟨rfl, h1, h2⟩
  rw [nf_cast ho i n]
  rw [List.drop_drop] at h1
  exact ⟨rfl, k.took h1 h2⟩
theorem Dq.later (k : Dq w0 w B S R X g h x sq sg ix v3 cs v4 ms zs) (hb : Below w.heap.size w w') : Dq w0 w' B S R X g h x sq sg ix v3 cs v4 ms zs := ⟨k.dp.later hb, k.im.later hb, ownsRow_later k.r3 hb, ownsRow_later k.r4 hb, k.far⟩
theorem takeQ {i : Nat} (k : Dq w0 w B S R X g h x sq sg ix v3 cs v4 ms (ys.drop i)) (n : Nat) (z : Int) (hz : z = n) (hn : i + n ≤ ys.length) (hy : ys.length ≤ 1000000) (ho : Oct ys) :
    Calls Try.prog 34 #[.pointer (some ⟨g, 0, none⟩), .int .i64 z] w fun e w' => e = .returned (.int .u64 (nf ys i n)) ∧ Dq w0 w' B S R X g h x sq sg ix v3 cs v4 ms (ys.drop (i + n)) := by
  subst hz
  refine (take_ok g h (ys.drop i) n w k.dp.re (by rw [List.length_drop]; omega) (by rw [List.length_drop]; omega) (ho.drop i)).mono ?_
  rintro e w' ⟨rfl, h1, h2⟩
  rw [nf_cast ho i n]
  rw [List.drop_drop] at h1
  obtain ⟨c, hb⟩ := k.dp.re.blk
  exact ⟨rfl, k.dp.took h1 h2, k.im.fr h2 (Blk.ne_ k.im hb (by decide)), ownsRow_fr k.r3 h2 (fun b hv e => own_blk_ne k.r3 hb (by decide) (by rw [hv, e])), ownsRow_fr k.r4 h2 (fun b hv e => own_blk_ne k.r4 hb (by decide) (by rw [hv, e])), k.far⟩
/-- What a write to a row behind B and to X leaves. -/
theorem Dq.frame (k : Dq w0 w B S R X g h x sq sg ix v3 cs v4 ms zs) (hf : Fr (fun b => B ≤ b ∨ b = X) w w') : Dp w0 w' S R g h x zs := by
  obtain ⟨f1, f2, f3, f4, f5⟩ := k.far
  have hn : ∀ b, b < X → ¬ (B ≤ b ∨ b = X) := fun b hb h => by omega
  refine ⟨k.dp.sh.fr hf (hn _ f1), k.dp.res.fr hf (hn _ f2), k.dp.re.fr_ hf (hn _ f3) (hn _ f4), k.dp.bel.trans (hf.toBelow k.dp.bel.size fun b hb h => ?_), k.dp.far.1, k.dp.far.2.1, Nat.lt_of_lt_of_le k.dp.far.2.2 hf.size⟩
  have := k.dp.far.1
  omega
theorem Dq.open3 (k : Dq w0 w B S R X g h x sq sg ix v3 cs v4 ms zs) (hb : Below w.heap.size w W) (hg : W.grownBy w' v3.ownBlock) : w'.cell? ⟨X, 3, none⟩ = some v3 ∧ w'.frozen? ⟨X, 3, none⟩ = false := by
  have k' := k.later hb
  have b2 := k'.im.grown hg (fun e => own_blk_ne k'.r3 k'.im (by decide) e.symm)
  exact ⟨b2.at_ rfl, b2.frozen 3⟩
theorem Dq.open4 (k : Dq w0 w B S R X g h x sq sg ix v3 cs v4 ms zs) (hb : Below w.heap.size w W) (hg : W.grownBy w' v4.ownBlock) : w'.cell? ⟨X, 4, none⟩ = some v4 ∧ w'.frozen? ⟨X, 4, none⟩ = false := by
  have k' := k.later hb
  have b2 := k'.im.grown hg (fun e => own_blk_ne k'.r4 k'.im (by decide) e.symm)
  exact ⟨b2.at_ rfl, b2.frozen 4⟩
theorem Dq.push3 (k : Dq w0 w B S R X g h x sq sg ix v3 cs v4 ms zs) (hb : Below w.heap.size w W) (hg : W.grownBy w' v3.ownBlock) (e : Nat × Nat) (ho : w'.ownsRow B 72 2 v3' (cs.length + 1) (sgs cs ++ sgv e)) :
    Dq w0 (w'.setCell ⟨X, 3, none⟩ v3') B S R X g h x sq sg ix v3' (cs ++ [e]) v4 ms zs := by
  have k' := k.later hb
  have hv : ∀ b, v3.ownBlock = some b → B ≤ b := fun b hb => (k'.r3.lt b hb).1
  have b2 := k'.im.grown hg (fun e => own_blk_ne k'.r3 k'.im (by decide) e.symm)
  have f2 : Fr (· = X) w' (w'.setCell ⟨X, 3, none⟩ v3') := (Fr.refl (· = X) w').setCell (p := ⟨X, 3, none⟩) (.inl rfl) v3'
  have fg : Fr (fun b => v3.ownBlock = some b) W w' := Fr.of_grown hg
  have fa : Fr (fun b => v3.ownBlock = some b ∨ b = X) W (w'.setCell ⟨X, 3, none⟩ v3') := (fg.mono fun b _ e => .inl e).trans (f2.mono fun b _ e => .inr e) fun _ _ h => h
  rw [← sgs_snoc] at ho
  have b3 := b2.set_ 3 v3'
  refine ⟨k'.frame (fa.mono fun b _ h => by rcases h with h | h; exact .inl (hv b h); exact .inr h), b3, ?_, ?_, k.far⟩
  · rw [List.length_append]
    exact ownsRow_fr ho f2 fun b hb e => own_blk_ne ho b2 (by decide) (by rw [hb, e])
  · refine ownsRow_fr k'.r4 fa fun b hb h => ?_
    rcases h with h | h
    · exact own_own_ne k'.r4 k'.r3 (by decide) b hb h
    · subst h; exact own_blk_ne k'.r4 k'.im (by decide) hb
theorem Dq.push4 (k : Dq w0 w B S R X g h x sq sg ix v3 cs v4 ms zs) (hb : Below w.heap.size w W) (hg : W.grownBy w' v4.ownBlock) (p : Nat) (ho : w'.ownsRow B 3 1 v4' (ms.length + 1) (mps ms ++ [.int .i64 ((p : Int) - 1)])) :
    Dq w0 (w'.setCell ⟨X, 4, none⟩ v4') B S R X g h x sq sg ix v3 cs v4' (ms ++ [p]) zs := by
  have k' := k.later hb
  have hv : ∀ b, v4.ownBlock = some b → B ≤ b := fun b hb => (k'.r4.lt b hb).1
  have b2 := k'.im.grown hg (fun e => own_blk_ne k'.r4 k'.im (by decide) e.symm)
  have f2 : Fr (· = X) w' (w'.setCell ⟨X, 4, none⟩ v4') := (Fr.refl (· = X) w').setCell (p := ⟨X, 4, none⟩) (.inl rfl) v4'
  have fg : Fr (fun b => v4.ownBlock = some b) W w' := Fr.of_grown hg
  have fa : Fr (fun b => v4.ownBlock = some b ∨ b = X) W (w'.setCell ⟨X, 4, none⟩ v4') := (fg.mono fun b _ e => .inl e).trans (f2.mono fun b _ e => .inr e) fun _ _ h => h
  rw [← mps_snoc] at ho
  have b3 := b2.set_ 4 v4'
  refine ⟨k'.frame (fa.mono fun b _ h => by rcases h with h | h; exact .inl (hv b h); exact .inr h), b3, ?_, ?_, k.far⟩
  · refine ownsRow_fr k'.r3 fa fun b hb h => ?_
    rcases h with h | h
    · exact own_own_ne k'.r3 k'.r4 (by decide) b hb h
    · subst h; exact own_blk_ne k'.r3 k'.im (by decide) hb
  · rw [List.length_append]
    exact ownsRow_fr ho f2 fun b hb e => own_blk_ne ho b2 (by decide) (by rw [hb, e])
theorem Dq.done (k : Dq w0 w B S R X g h x sq sg ix v3 cs v4 ms zs) :
    Blk (((((w.setCell ⟨R, 0, none⟩ (.int .u64 sq)).setCell ⟨R, 1, none⟩ (.int .i64 sg)).setCell ⟨R, 2, none⟩ (.int .i64 ix)).setCell ⟨R, 3, none⟩ v3).setCell ⟨R, 4, none⟩ v4) R 28 #[.int .u64 sq, .int .i64 sg, .int .i64 ix, v3, v4] ∧
    (((((w.setCell ⟨R, 0, none⟩ (.int .u64 sq)).setCell ⟨R, 1, none⟩ (.int .i64 sg)).setCell ⟨R, 2, none⟩ (.int .i64 ix)).setCell ⟨R, 3, none⟩ v3).setCell ⟨R, 4, none⟩ v4).ownsRow B 72 2 v3 cs.length (sgs cs) ∧
    (((((w.setCell ⟨R, 0, none⟩ (.int .u64 sq)).setCell ⟨R, 1, none⟩ (.int .i64 sg)).setCell ⟨R, 2, none⟩ (.int .i64 ix)).setCell ⟨R, 3, none⟩ v3).setCell ⟨R, 4, none⟩ v4).ownsRow B 3 1 v4 ms.length (mps ms) ∧
    Below w0.heap.size w0 (((((w.setCell ⟨R, 0, none⟩ (.int .u64 sq)).setCell ⟨R, 1, none⟩ (.int .i64 sg)).setCell ⟨R, 2, none⟩ (.int .i64 ix)).setCell ⟨R, 3, none⟩ v3).setCell ⟨R, 4, none⟩ v4) := by
  obtain ⟨h1, h2⟩ := im_set k.dp.res (.int .u64 sq) (.int .i64 sg) (.int .i64 ix) v3 v4
  exact ⟨h1, ownsRow_fr k.r3 h2 (fun b hb e => own_blk_ne k.r3 k.dp.res (by decide) (by rw [hb, e])), ownsRow_fr k.r4 h2 (fun b hb e => own_blk_ne k.r4 k.dp.res (by decide) (by rw [hb, e])), k.dp.bel.trans (h2.toBelow k.dp.bel.size fun b hb e => by have := k.dp.far.1; omega)⟩
end
end Go.Proofs.Ytcpngnnnggpfpaa
