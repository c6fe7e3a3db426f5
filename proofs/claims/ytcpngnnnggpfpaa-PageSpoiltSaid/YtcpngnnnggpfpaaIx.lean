/- PageSpoilt: the words. The walk of PageSpoilt. No further condition. -/
import Derived.Test.YtcpngnnnggpfpaaIr
import Derived.Test.YtcpngnnnggpfpaaIu
import Derived.Test.YtcpngnnnggpfpaaIg
namespace Go.Proofs.Ytcpngnnnggpfpaa
open Go.RowKit

theorem readsF {x : Sh} {T P g s t q l al sl : Nat} (k : Fs x T P g s t q l al sl) (gen : Nat) (hgen : gen < 18446744073709551616) (A : Option Addr) (c : Nat) (pl : List Sc) (w : World) (hr : Rd w A (scs pl)) (hh : Hsc w pl) (ho : ∀ s ∈ pl, Oct s.raw) (hc : pl.length ≤ c) :
    Calls Try.prog 18 #[.agg (shA x), .int .u64 gen, .slice A pl.length c] w fun e w' => ImRes w.heap.size w' e (decP gen g P s t q l (rws pl)) (decC gen g P s t q l (rws pl)) ∧ Below w.heap.size w w' := by
  have h0 := k.bounds
  have h4 := k.hm
  by_cases hl : pl.length = P
  · rw [hl] at hc ⊢
    exact reads_ok x gen A c pl T P g s t q l w k.gd hgen (by omega) k.es k.et k.el al sl k.eal k.esl k.eq (by omega) hr hh ho hl hc
  · have h1 : decC gen g P s t q l (rws pl) = 6 := by unfold decC; rw [if_neg (by rw [rws_len]; exact hl)]
    have h2 : decP gen g P s t q l (rws pl) = zeroPic := by unfold decP; rw [h1, if_neg (by decide)]
    rw [h1, h2]
    exact reads_size x gen A pl.length c T P g w k.gd hl
/-- A row of the call's own, one of its cells another one. -/
theorem own_put {w : World} {base g n c i : Nat} {e : TypeId} {xs : List Value} {y : Value} (k : w.ownsRow base e 1 (.slice (some ⟨g, 0, none⟩) n c) n xs) :
    (w.setCell ⟨g, i, none⟩ y).ownsRow base e 1 (.slice (some ⟨g, 0, none⟩) n c) n (xs.set i y) ∧ Below base w (w.setCell ⟨g, i, none⟩ y) ∧ w.frozen? ⟨g, i, none⟩ = false := by
  obtain ⟨h1, h2⟩ := k
  rcases h2 with ⟨e, -⟩ | ⟨g', cap, cur, e, hb, hh, hnc, hm, hs, hx⟩
  · cases e
  · injection e with e e2 e3
    injection e with e
    injection e with e
    subst e e3
    have hk : Blk w g _ cur := hh
    have hset : (w.setCell ⟨g, i, none⟩ y).heap[g]? = some (.cells (cur.setIfInBounds i y) _ (0, 0)) := hk.set_ i _
    refine ⟨⟨by simpa using h1, .inr ⟨g, c, _, rfl, hb, hset, hnc, hm, by simpa using hs, ?_⟩⟩, (Below.refl _ _).setCell hb _, hk.frozen i⟩
    rw [Array.toList_setIfInBounds, List.take_set, hx]
theorem scs_set (l : List Sc) (k : Nat) (s : Sc) : scs (l.set k s) = (scs l).set k (scv s) := by unfold scs; rw [List.map_set]
/-- An element put into the row. -/
theorem Al.put {w0 w : World} {g c : Nat} {l : List Sc} {s : Sc} (k : Al w0 w (.slice (some ⟨g, 0, none⟩) l.length c) l) (ks : Ow w0 w s) (i : Nat) :
    Al w0 (w.setCell ⟨g, i, none⟩ (scv s)) (.slice (some ⟨g, 0, none⟩) l.length c) (l.set i s) ∧ w.frozen? ⟨g, i, none⟩ = false := by
  obtain ⟨h1, h2, h3⟩ := own_put (i := i) (y := scv s) k.row
  have f2 : Fr (· = g) w (w.setCell ⟨g, i, none⟩ (scv s)) := (Fr.refl (· = g) w).setCell (p := ⟨g, i, none⟩) (.inl rfl) _
  have hne : ∀ s : Sc, Ow w0 w s → ∀ ad, s.A = some ad → ad.block ≠ g := fun s h ad e => by
    obtain ⟨⟨cur, hb⟩, -⟩ := h.own ad e
    intro e2
    exact own_blk_ne k.row hb (by decide) (by rw [e2]; rfl)
  have hk : ∀ r : Sc, Ow w0 w r → Ow w0 (w.setCell ⟨g, i, none⟩ (scv s)) r := fun r h => ⟨h.len, h.rd.fr f2 (fun ad e => hne r h ad e), fun ad e => by
    obtain ⟨⟨cur, hb⟩, h9⟩ := h.own ad e
    exact ⟨⟨cur, hb.fr f2 (hne r h ad e)⟩, h9⟩⟩
  refine ⟨⟨by rw [List.length_set, scs_set]; exact h1, fun r hr => ?_, k.bel.trans h2⟩, h3⟩
  rcases List.mem_or_eq_of_mem_set hr with h | h
  · exact hk r (k.each r h)
  · rw [h]; exact hk s ks
theorem add0 (b i : Nat) : (⟨b, 0, none⟩ : Addr).add i = ⟨b, i, none⟩ := by
  unfold Addr.add
  split
  · next h => rw [h]
  · simp
/-- A byte of one page turned. -/
theorem Ap.turn {w0 w : World} {v : Value} {l : List Sc} {s : Sc} {j b i : Nat} {y : Int} (k : Ap w0 w v l) (hs : l[j]? = some s) (ha : s.A = some ⟨b, 0, none⟩) (hi : i < s.raw.length) :
    Al w0 (w.setCell ⟨b, i, none⟩ (.int .u8 y)) v (l.set j ⟨s.A, s.raw.set i y, s.c⟩) ∧ w.frozen? ⟨b, i, none⟩ = false := by
  have hsm := List.mem_of_getElem? hs
  have hks := k.al.each s hsm
  obtain ⟨⟨cur, hb⟩, hbs⟩ := hks.own _ ha
  have hb : Blk w b 5 cur := hb
  have hbs : w0.heap.size ≤ b := hbs
  have f2 : Fr (· = b) w (w.setCell ⟨b, i, none⟩ (.int .u8 y)) := (Fr.refl (· = b) w).setCell (p := ⟨b, i, none⟩) (.inl rfl) _
  refine ⟨⟨?_, fun r hr => ?_, k.al.bel.trans (f2.toBelow k.al.bel.size fun q hq e => by omega)⟩, hb.frozen i⟩
  · have h1 : scs (l.set j ⟨s.A, s.raw.set i y, s.c⟩) = scs l := by
      rw [scs_set]
      have h2 : scv ⟨s.A, s.raw.set i y, s.c⟩ = scv s := by unfold scv; simp
      rw [h2]
      refine List.ext_getElem? fun m => ?_
      rw [List.getElem?_set]
      split
      · next h => subst h; rw [scs_get hs]; simp [scs, (List.getElem?_eq_some_iff.1 hs).1]
      · rfl
    rw [List.length_set, h1]
    exact ownsRow_fr k.al.row f2 fun g hg e => own_blk_ne k.al.row hb (by decide) (by rw [hg, e])
  · obtain ⟨m, hm⟩ := List.getElem?_of_mem hr
    rw [List.getElem?_set] at hm
    by_cases hjm : j = m
    · rw [if_pos hjm] at hm
      split at hm
      · injection hm with hm
        subst hm
        refine ⟨by simpa using hks.len, ?_, fun ad e => ?_⟩
        · intro n u hu
          refine ⟨⟨b, 0, none⟩, ha, ?_⟩
          rw [add0]
          have hu2 : byv (s.raw.set i y) = (byv s.raw).set i (.int .u8 y) := by unfold byv; rw [List.map_set]
          rw [hu2, List.getElem?_set] at hu
          by_cases hin : i = n
          · subst hin
            rw [if_pos rfl] at hu
            split at hu
            · injection hu with hu
              subst hu
              obtain ⟨ad', e1, e2⟩ := hks.rd i (.int .u8 s.raw[i]) (by unfold byv; rw [List.getElem?_map, List.getElem?_eq_getElem hi]; rfl)
              rw [ha] at e1
              injection e1 with e1
              subst e1
              rw [add0] at e2
              exact World.cell?_setCell_same _ _ _ e2
            · cases hu
          · rw [if_neg hin] at hu
            obtain ⟨ad', e1, e2⟩ := hks.rd n u hu
            rw [ha] at e1
            injection e1 with e1
            subst e1
            rw [add0] at e2
            rw [World.cell?_setCell_other _ _ _ _ (by intro e; injection e with _ e; exact hin e)]
            exact e2
        · rw [show (⟨s.A, s.raw.set i y, s.c⟩ : Sc).A = s.A from rfl, ha] at e
          injection e with e
          subst e
          exact ⟨⟨_, hb.set_ i _⟩, hbs⟩
      · cases hm
    · rw [if_neg hjm] at hm
      have hrm := List.mem_of_getElem? hm
      have hkr := k.al.each r hrm
      have hne : ∀ ad, r.A = some ad → ad.block ≠ b := fun ad e => by
        obtain ⟨m1, m2⟩ := List.getElem?_eq_some_iff.1 hm
        obtain ⟨j1, j2⟩ := List.getElem?_eq_some_iff.1 hs
        have hpw := List.pairwise_iff_getElem.1 k.ne
        rcases Nat.lt_or_gt_of_ne hjm with h | h
        · have := hpw j m j1 m1 h
          rw [j2, m2] at this
          exact fun e2 => this _ _ ha e e2.symm
        · have := hpw m j m1 j1 h
          rw [j2, m2] at this
          exact fun e2 => this _ _ e ha e2
      exact ⟨hkr.len, hkr.rd.fr f2 (fun ad e => hne ad e), fun ad e => by
        obtain ⟨⟨cur', hb'⟩, h9⟩ := hkr.own ad e
        exact ⟨⟨cur', hb'.fr f2 (hne ad e)⟩, h9⟩⟩
end Go.Proofs.Ytcpngnnnggpfpaa
namespace Go.Proofs.Ytcpngnnnggpfpaa
open Go.RowKit Go.ChangeShapes Go.WideShapes Go.Deep
attribute [local go_sem ↓] Go.wp_at_zero Go.wp_at_succ

/-- The arguments' blocks. -/
structure Dx (w0 W : World) (fb mb sb : Array Value) : Prop where
  fb : Blk W w0.heap.size 38 fb
  mb : Blk W (w0.heap.size + 1) 43 mb
  sb : Blk W (w0.heap.size + 2) 53 sb
  bel : Below w0.heap.size w0 W
theorem Dx.later {w0 w w' : World} {fb mb sb : Array Value} (k : Dx w0 w fb mb sb) (hb : Below w.heap.size w w') : Dx w0 w' fb mb sb := ⟨k.fb.later hb, k.mb.later hb, k.sb.later hb, k.bel.trans (hb.mono k.bel.size)⟩
theorem Dx.start (w : World) (fb mb sb : Array Value) : Dx w (((w.alloc (.cells fb 38)).alloc (.cells mb 43)).alloc (.cells sb 53)) fb mb sb :=
  ⟨((Blk.new w 38 _).alloc _).alloc _, (Blk.new_ _ _ _ (by simp)).alloc _, Blk.new_ _ _ _ (by simp), (((Below.refl _ _).alloc (Nat.le_refl _) _).alloc (by simp) _).alloc (by simp; omega) _⟩
/-- The shape's and what is turned. -/
structure Dy (w0 W : World) (S : Nat) (x : Sh) (sb : Array Value) : Prop where
  sh : Blk W S 23 (shA x)
  sb : Blk W (w0.heap.size + 2) 53 sb
  bel : Below w0.heap.size w0 W
theorem Dy.later {w0 w w' : World} {S : Nat} {x : Sh} {sb : Array Value} (k : Dy w0 w S x sb) (hb : Below w.heap.size w w') : Dy w0 w' S x sb := ⟨k.sh.later hb, k.sb.later hb, k.bel.trans (hb.mono k.bel.size)⟩
theorem Dy.turn {w0 w : World} {S pb i : Nat} {x : Sh} {sb : Array Value} {cur : Array Value} {y : Value} (k : Dy w0 w S x sb) (hb : Blk w pb 5 cur) (hs : w0.heap.size ≤ pb) : Dy w0 (w.setCell ⟨pb, i, none⟩ y).drew S x sb := by
  have f2 : Fr (· = pb) w (w.setCell ⟨pb, i, none⟩ y) := (Fr.refl (· = pb) w).setCell (p := ⟨pb, i, none⟩) (.inl rfl) _
  exact ⟨(k.sh.fr f2 (Blk.ne_ k.sh hb (by decide))).drew, (k.sb.fr f2 (Blk.ne_ k.sb hb (by decide))).drew, below_drewN (k.bel.trans (f2.toBelow k.bel.size fun b hb e => by omega)) 1⟩
theorem Dy.put {w0 w : World} {S g i base n c : Nat} {x : Sh} {sb : Array Value} {y : Value} {xs : List Value} (k : Dy w0 w S x sb) (hr : w.ownsRow base 47 1 (.slice (some ⟨g, 0, none⟩) n c) n xs) (hb : w0.heap.size ≤ base) : Dy w0 (w.setCell ⟨g, i, none⟩ y) S x sb := by
  have f2 : Fr (· = g) w (w.setCell ⟨g, i, none⟩ y) := (Fr.refl (· = g) w).setCell (p := ⟨g, i, none⟩) (.inl rfl) _
  have hg := (hr.lt g rfl).1
  exact ⟨k.sh.fr f2 (fun e => own_blk_ne hr k.sh (by decide) (by rw [e]; rfl)), k.sb.fr f2 (fun e => own_blk_ne hr k.sb (by decide) (by rw [e]; rfl)), k.bel.trans (f2.toBelow k.bel.size fun b hb e => by omega)⟩
theorem Dy.grow {w0 w w' : World} {S base n : Nat} {x : Sh} {sb : Array Value} {v : Value} {xs : List Value} (k : Dy w0 w S x sb) (hr : w.ownsRow base 47 1 v n xs) (hb : w0.heap.size ≤ base) (hg : w.grownBy w' v.ownBlock) : Dy w0 w' S x sb :=
  ⟨k.sh.grown hg (fun e => own_blk_ne hr k.sh (by decide) e.symm), k.sb.grown hg (fun e => own_blk_ne hr k.sb (by decide) e.symm), k.bel.grown hg k.bel.size fun b h => Nat.le_trans hb (hr.lt b h).1⟩
theorem Ow.put {w0 w : World} {base g n c i : Nat} {r : Sc} {y : Value} {xs : List Value} (h : Ow w0 w r) (k : w.ownsRow base 47 1 (.slice (some ⟨g, 0, none⟩) n c) n xs) : Ow w0 (w.setCell ⟨g, i, none⟩ y) r := by
  have f2 : Fr (· = g) w (w.setCell ⟨g, i, none⟩ y) := (Fr.refl (· = g) w).setCell (p := ⟨g, i, none⟩) (.inl rfl) _
  have hne : ∀ ad, r.A = some ad → ad.block ≠ g := fun ad e => by
    obtain ⟨⟨cur, hb⟩, -⟩ := h.own ad e
    intro e2
    exact own_blk_ne k hb (by decide) (by rw [e2]; rfl)
  exact ⟨h.len, h.rd.fr f2 (fun ad e => hne ad e), fun ad e => by
    obtain ⟨⟨cur, hb⟩, h9⟩ := h.own ad e
    exact ⟨⟨cur, hb.fr f2 (hne ad e)⟩, h9⟩⟩
/-- A page without its first byte. -/
theorem Ow.cut {w0 w : World} {A : Option Addr} {raw : List Int} {c : Nat} (k : Ow w0 w ⟨A, raw, c⟩) : Ow w0 w ⟨if c = 1 then A else A.map (·.add (1 * 1)), raw.drop 1, c - 1⟩ := by
  have hl : raw.length ≤ c := k.len
  refine ⟨by simp only [List.length_drop]; omega, ?_, fun ad e => ?_⟩
  · have h9 := Rd.cutg (size := 1) (c := c) (n := 1) (len := raw.length) k.rd (by rw [byv_len, Nat.mul_one]) hl
    rw [Nat.mul_one, ← byv_drop] at h9
    exact h9
  · simp only at e
    split at e
    · exact k.own ad e
    · rcases A with _ | a
      · cases e
      · injection e with e
        subst e
        rw [block_of_add]
        exact k.own a rfl
/-- Two pages exchanged. -/
theorem swap_ok {w0 w : World} {g c j : Nat} {l : List Sc} {s0 sk : Sc} (h : Al w0 w (.slice (some ⟨g, 0, none⟩) l.length c) l) (h0 : l[0]? = some s0) (hk : l[j]? = some sk) :
    Al w0 ((w.setCell ⟨g, 0, none⟩ (scv sk)).setCell ⟨g, j, none⟩ (scv s0)) (.slice (some ⟨g, 0, none⟩) l.length c) ((l.set 0 sk).set j s0) ∧ w.frozen? ⟨g, 0, none⟩ = false ∧ (w.setCell ⟨g, 0, none⟩ (scv sk)).frozen? ⟨g, j, none⟩ = false := by
  obtain ⟨h1, h2⟩ := h.put (h.each sk (List.mem_of_getElem? hk)) 0
  rw [show l.length = (l.set 0 sk).length by rw [List.length_set]] at h1
  obtain ⟨h3, h4⟩ := h1.put ((h.each s0 (List.mem_of_getElem? h0)).put h.row) j
  rw [List.length_set] at h3
  exact ⟨h3, h2, h4⟩
theorem decP_len (gen g P s t q l : Nat) (pg : List (List Int)) : (decP gen g P s t q l pg).cs.length ≤ s ∧ (decP gen g P s t q l pg).mp.length ≤ l := by
  unfold decP
  split
  · exact ⟨by unfold picAt; simp only; rw [segsAt_len]; exact Nat.le_refl _, by unfold picAt; simp only; rw [mapsAt_len]; exact Nat.le_refl _⟩
  · exact ⟨Nat.zero_le _, Nat.zero_le _⟩
theorem u8_xor_in (x : Int) (b : Nat) (hx : 0 ≤ x ∧ x < 256) (hb : b < 256) : 0 ≤ bits BinOp.xor IntKind.u8 x (b : Int) ∧ bits BinOp.xor IntKind.u8 x (b : Int) < 256 := by
  rw [u8_xor x b hx.1 hx.2 (by omega) (by omega)]
  have := Nat.xor_lt_two_pow (n := 8) (x := x.toNat) (y := (b : Int).toNat) (by omega) (by omega)
  omega
theorem rws_at {l : List Sc} {pg : List (List Int)} (h : rws l = pg) {k : Nat} {s : Sc} (hs : l[k]? = some s) : pg[k]? = some s.raw := by rw [← h]; exact rws_get hs
set_option maxRecDepth 100000 in
set_option maxHeartbeats 12800000 in
theorem spoilt_walk (a b c d e f : Int) (y : Sml) (A B : Option Addr) (ca cb gen pg at_ by_ wh : Nat) (se : Bool) (w : World) (h : Ok8 a b c d e f) (hy : OkSml y) (ra : Rd w A (ces y.cs)) (rb : Rd w B (mus y.mp)) (hg : gen < 18446744073709551616) (h1 : pg < 256) (h2 : at_ < 256) (h3 : by_ < 256) (h4 : wh < 256) :
    Calls Try.prog 6 #[.agg #[.int .u8 a, .int .u8 b, .int .u8 c, .int .u8 d, .int .u8 e, .int .u8 f], .agg #[.int .u64 y.sq, .int .i8 y.sg, .int .u8 y.ix, .slice A y.cs.length ca, .slice B y.mp.length cb], .int .u64 gen, .agg #[.int .u8 pg, .int .u8 at_, .int .u8 by_, .int .u8 wh, .bool se]] w fun e w' => e = .returned (.bool true) ∧ Below w.heap.size w w' := by
  have hfl := fun W => full_ok a b c d e f W h
  obtain ⟨T, P, g, s, t, q, l, al, sl, hF⟩ := fs_of h
  generalize fullOf a b c d e f = x at *
  obtain ⟨hp, hi, hcs, hmp⟩ := picF hF y hy
  have hmk := fun W h1 h2 => makeF hF y hy A B ca cb W h1 h2
  obtain ⟨z, hz⟩ : ∃ z, z = makeP y s t q l := ⟨_, rfl⟩
  rw [← hz] at hp hi hcs hmp hmk
  have hbd := hF.bounds
  have hpT := picT hF z hcs hmp
  have htel := fun (A B : Option Addr) (c d : Nat) (W : World) h1 h2 => tells_ok x gen z A B c d T P g W hF.gd hg (by omega) hp hpT (by omega) h1 h2
  obtain ⟨pgs, hpg⟩ : ∃ pgs, pgs = pgsL gen g (picL z) P := ⟨_, rfl⟩
  have hpgl : pgs.length = P := by rw [hpg]; exact pgsL_len _ _ _ _
  have hpgo : ∀ v ∈ pgs, Oct v := by rw [hpg]; exact pgsL_oct (picL_oct z) P
  have hpgn : ∀ v ∈ pgs, v.length = g + 15 := by
    rw [hpg]
    intro v hv
    obtain ⟨i, _, rfl⟩ := List.mem_map.1 hv
    exact pgL_len _ _ _ _
  rw [← hpg] at htel
  rw [hcs, hmp] at htel
  have hgg := hF.hg
  have hxb : x.b = (g : Int) + 15 := by have := hF.gd.b; omega
  have HF := Lib.hid hF
  have HFL := Lib.hid hfl
  have HMK := Lib.hid hmk
  have HTEL := Lib.hid htel
  have HPL := Lib.hid hpgl
  have HPO := Lib.hid hpgo
  have HPN := Lib.hid hpgn
  have HRA := Lib.hid ra
  have HRB := Lib.hid rb
  have HAW := Lib.hid awake_ok
  have HCS := Lib.hid hcs
  have HMP := Lib.hid hmp
  have HXB := Lib.hid hxb
  have HD := Lib.hid (Dx.start w #[.int .u8 a, .int .u8 b, .int .u8 c, .int .u8 d, .int .u8 e, .int .u8 f] #[.int .u64 y.sq, .int .i8 y.sg, .int .u8 y.ix, .slice A y.cs.length ca, .slice B y.mp.length cb] #[.int .u8 pg, .int .u8 at_, .int .u8 by_, .int .u8 wh, .bool se])
  clear h hy hfl hF hmk htel hpg hpgl hpgo hpgn hz hp hi hpT ra rb hcs hmp hxb
  go_enter Try.func6, Try.ntmps6
  go_upto_region 4 with (first
    | (go_at_call 7; (with_reducible refine (HAW.out _).mono ?_); rintro e w1 ⟨rfl, hb1⟩; have HD1 := Lib.hid (HD.out.later hb1); clear hb1; obtain ⟨i0, i1, i2, i3, i4, i5⟩ := HD1.out.fb.cells6)
    | (go_at_call 11; (with_reducible refine (HFL.out _).mono ?_); rintro e w2 ⟨rfl, hb2⟩; have HD2 := Lib.hid (HD1.out.later hb2); clear hb2))
  have HE0 := Lib.hid (HD2.out.later ((Below.refl _ _).alloc (Nat.le_refl _) (.cells (shA x) 23)))
  have HS0 := Lib.hid (Blk.new w2 23 (shA x))
  unfold shA at HE0 HS0
  obtain ⟨S, hS⟩ : ∃ S, S = w2.heap.size := ⟨_, rfl⟩
  rw [← hS] at HS0
  rw [← hS]
  clear hS i0 i1 i2 i3 i4 i5 HD HD1 HD2 HAW HFL
  generalize w2.alloc (.cells #[.int .i64 x.m, .int .i64 x.b, .int .i64 x.s, .int .i64 x.t, .int .i64 x.n, .int .i64 x.l] 23) = W at HE0 HS0 ⊢
  have HQ0 : Hid (De w W S x #[.int .u64 y.sq, .int .i8 y.sg, .int .u8 y.ix, .slice A y.cs.length ca, .slice B y.mp.length cb]) := Lib.hid ⟨HS0.out, HE0.out.mb, HE0.out.bel⟩
  have HY0 : Hid (Dy w W S x #[.int .u8 pg, .int .u8 at_, .int .u8 by_, .int .u8 wh, .bool se]) := Lib.hid ⟨HS0.out, HE0.out.sb, HE0.out.bel⟩
  have HQ1 : Hid (De w W.drew S x _) := Lib.hid (HQ0.out.later (below_drewN (Below.refl _ _) 1))
  obtain ⟨t0, t1, t2, t3, t4, t5, m0, m1, m2, m3, m4⟩ := HQ0.out.keep
  obtain ⟨d0, d1, d2, d3, d4, d5, n0, n1, n2, n3, n4⟩ := HQ1.out.keep
  go_region_held3 (KeepE w S x (.int .u64 y.sq) (.int .i8 y.sg) (.int .u8 y.ix) (.slice A y.cs.length ca) (.slice B y.mp.length cb))
    (first | exact HQ3.out.keep | exact HQ2.out.keep | exact HQ1.out.keep | exact HQ0.out.keep)
    (first
      | (go_at_call 12; (with_reducible refine (HMK.out W.drew (HRA.out.later HQ1.out.bel) (HRB.out.later HQ1.out.bel)).mono ?_); rintro e u1 ⟨⟨A1, c1, B1, c1', rfl, ra1, rb1⟩, hb1⟩; have HQ2 := Lib.hid (HQ1.out.later hb1); have HRA1 := Lib.hid ra1; have HRB1 := Lib.hid rb1; rw [HCS.out, HMP.out]; have HY1 := Lib.hid ((HY0.out.later (below_drewN (Below.refl _ _) 1)).later hb1); clear ra1 rb1 hb1)
      | (go_at_call 14; (with_reducible refine (HTEL.out A1 B1 c1 c1' u1 HRA1.out HRB1.out).mono ?_); rintro e u2 ⟨v, fs, rfl, hfs, hap⟩; obtain ⟨A3, c3, rfl, -, hc3, -⟩ := own_formc hap.al.row; have HQ3 := Lib.hid (HQ2.out.later hap.al.bel); have HY2 := Lib.hid (HY1.out.later hap.al.bel); have HU1 : Hid (w.heap.size ≤ u1.heap.size) := Lib.hid HQ2.out.bel.size; have HAP := Lib.hid hap; have HFS := Lib.hid hfs; have HC3 := Lib.hid hc3; clear hfs hap hc3))
  have hfsl : fs.length = P := by rw [← rws_len, HFS.out]; exact HPL.out
  have hr0 := Rd.of_own HAP.out.al.row
  obtain ⟨s00, hs00⟩ : ∃ s00, fs[0]? = some s00 := ⟨_, List.getElem?_eq_getElem (by omega)⟩
  obtain ⟨ga, rfl, -⟩ := hr0 0 (scv s00) (scs_get hs00)
  have hga := own_at0 HAP.out.al.row ga rfl
  obtain ⟨G, hG⟩ : ∃ G, ga = ⟨G, 0, none⟩ := ⟨ga.block, by obtain ⟨g1, g2, g3⟩ := ga; obtain ⟨rfl, rfl⟩ := hga; rfl⟩
  have HG := Lib.hid hG
  have HFL := Lib.hid hfsl
  rw [hfsl]
  obtain ⟨k, hk⟩ : ∃ k, k = pg % P := ⟨_, rfl⟩
  have hkP : k < P := by rw [hk]; exact Nat.mod_lt _ (by omega)
  obtain ⟨i1, hi1⟩ : ∃ i1, i1 = at_ % (g + 15) := ⟨_, rfl⟩
  have hi1b : i1 < g + 15 := by rw [hi1]; exact Nat.mod_lt _ (by omega)
  have p0 : ((P : Int) == 0) = false := by simp; omega
  have p1 : (P : Int) ≠ 0 := by omega
  have p2 : (pg : Int).tmod (P : Int) = (k : Int) := by rw [Int.tmod_eq_emod_of_nonneg (by omega), hk]; rfl
  have p3 : (pg : Int) % (P : Int) = (k : Int) := by rw [hk]; rfl
  have p4 : IntKind.i64.wrap (pg : Int) = (pg : Int) := IntWalk.i64_in _ (by omega)
  have b0 : (x.b == 0) = false := by rw [HXB.out]; simp; omega
  have b1 : x.b ≠ 0 := by rw [HXB.out]; omega
  have b2 : (at_ : Int).tmod x.b = (i1 : Int) := by rw [HXB.out, Int.tmod_eq_emod_of_nonneg (by omega), hi1]; rfl
  have b3 : (at_ : Int) % x.b = (i1 : Int) := by rw [HXB.out, hi1]; rfl
  have b4 : IntKind.i64.wrap (at_ : Int) = (at_ : Int) := IntWalk.i64_in _ (by omega)
  obtain ⟨x0, x1, x2, x3, x4⟩ := HY2.out.sb.cells5
  obtain ⟨w0, w1, w2', w3, w4, w5⟩ := HY2.out.sh.cells6
  clear hr0 hs00 hga hG hfsl hk hi1 t0 t1 t2 t3 t4 t5 m0 m1 m2 m3 m4 d0 d1 d2 d3 d4 d5 n0 n1 n2 n3 n4 HQ0 HQ1 HQ2 HQ3 HY0 HY1 HE0 HS0 HMK HTEL HRA HRB HRA1 HRB1
  go_upto_if 42 with fail
  go_cut [12] (fun i wx => ∃ i2 : Nat, i2 < g + 15 ∧ i = .int .i64 i2 ∧ wx = u2)
  case first =>
    by_cases h9 : at_ % 3 = 0
    · obtain ⟨dq, hdq⟩ : ∃ dq, dq = at_ / 3 := ⟨_, rfl⟩
      obtain ⟨i2, hi2⟩ : ∃ i2, i2 = dq % 24 := ⟨_, rfl⟩
      have q0 : ((at_ : Int) % 3 == 0) = true := by simp; omega
      have q1 : (at_ : Int) % 3 = 0 := by omega
      have q2 : (at_ : Int).tdiv 3 = (dq : Int) := by rw [Int.tdiv_eq_ediv_of_nonneg (by omega), hdq]; rfl
      have q3 : (at_ : Int) / 3 = (dq : Int) := by rw [hdq]; rfl
      have q4 : IntKind.u8.wrap (dq : Int) = (dq : Int) := by rw [IntKind.wrap_u8]; omega
      have q5 : IntKind.i64.wrap (dq : Int) = (dq : Int) := IntWalk.i64_in _ (by omega)
      have q6 : (dq : Int).tmod 24 = (i2 : Int) := by rw [Int.tmod_eq_emod_of_nonneg (by omega), hi2]; rfl
      have q7 : (dq : Int) % 24 = (i2 : Int) := by rw [hi2]; rfl
      have hi2b : i2 < g + 15 := by omega
      clear h9 hdq hi2
      go_wp2_with fail
      go_meet
      exact ⟨i2, hi2b, rfl, rfl⟩
    · have q0 : ((at_ : Int) % 3 == 0) = false := by simp; omega
      have q1 : (at_ : Int) % 3 ≠ 0 := by omega
      clear h9
      go_wp2_with fail
      go_meet
      exact ⟨i1, hi1b, rfl, rfl⟩
  case rest =>
    obtain ⟨i2, hi2, rfl, rfl⟩ := hcut
    obtain ⟨s0, hs0⟩ : ∃ s0, fs[k]? = some s0 := ⟨_, List.getElem?_eq_getElem (by rw [HFL.out]; exact hkP)⟩
    have hsm := List.mem_of_getElem? hs0
    have hp0 := rws_at HFS.out hs0
    have hln := HPN.out s0.raw (List.mem_of_getElem? hp0)
    have hso := HPO.out s0.raw (List.mem_of_getElem? hp0)
    have hr0 := (Rd.of_own HAP.out.al.row) k (scv s0) (scs_get hs0)
    obtain ⟨ga', hga, rc0⟩ := hr0
    injection hga with hga
    subst hga
    obtain ⟨xv, hxv⟩ : ∃ xv, s0.raw[i2]? = some xv := ⟨_, List.getElem?_eq_getElem (by omega)⟩
    have hks := HAP.out.al.each s0 hsm
    obtain ⟨pa, hpa, pc0⟩ := hks.rd i2 (.int .u8 xv) (by unfold byv; rw [List.getElem?_map, hxv]; rfl)
    have hpa0 := HAP.out.at0 s0 hsm pa hpa
    obtain ⟨pb, hpb⟩ : ∃ pb, pa = ⟨pb, 0, none⟩ := ⟨pa.block, by obtain ⟨g1, g2, g3⟩ := pa; obtain ⟨rfl, rfl⟩ := hpa0; rfl⟩
    obtain ⟨⟨cur, hpbk⟩, hpbs⟩ := hks.own pa hpa
    have HYT : Hid (∀ yv : Value, Dy w (wc.setCell ⟨pb, i2, none⟩ yv).drew S x #[.int .u8 pg, .int .u8 at_, .int .u8 by_, .int .u8 wh, .bool se]) := Lib.hid fun yv => HY2.out.turn (by rw [hpb] at hpbk; exact hpbk) (by rw [hpb] at hpbs; exact Nat.le_trans HU1.out hpbs)
    have hturn := fun yv => HAP.out.turn (y := yv) hs0 (by rw [hpa, hpb]) (show i2 < s0.raw.length by omega)
    have hxo := hso xv (List.mem_of_getElem? hxv)
    have HTURN := Lib.hid hturn
    have HPB := Lib.hid hpb
    have HS0 := Lib.hid hs0
    have HLN := Lib.hid hln
    have HSO := Lib.hid hso
    have HPA := Lib.hid hpa
    unfold scv at rc0
    rw [hpa] at rc0
    have fz : wc.frozen? (pa.add i2) = false := by rw [hpb, add0]; exact (hturn 0).2
    have fzd : wc.drew.frozen? (pa.add i2) = false := fz
    have rc1 : wc.drew.cell? (ga.add k) = some (.slice (some pa) s0.raw.length s0.c) := rc0
    have pc1 : wc.drew.cell? (pa.add i2) = some (.int .u8 xv) := pc0
    obtain ⟨x0, x1, x2, x3, x4⟩ := HY2.out.sb.cells5
    obtain ⟨z0, z1, z2, z3, z4⟩ := (HY2.out.sb.drew).cells5
    have g0 : (0 : Int) ≤ k := by omega
    have g1 : (k : Int) < P := by omega
    have g2 : (0 : Int) ≤ i2 := by omega
    have g3 : (i2 : Int) < s0.raw.length := by omega
    clear hs0 hsm hp0 hln hso hxv hks hpa hpa0 hpb hturn hpbk hpbs
    go_wp2_with fail
    go_region
    obtain ⟨yv, hyv⟩ : ∃ yv, yv = bits BinOp.xor IntKind.u8 xv (by_ : Int) := ⟨_, rfl⟩
    have hyo : 0 ≤ yv ∧ yv < 256 := by rw [hyv]; exact u8_xor_in xv by_ hxo h3
    rw [← hyv]
    have hw1 : wc.setCell (pa.add i2) (.int .u8 yv) = wc.setCell ⟨pb, i2, none⟩ (.int .u8 yv) := by rw [HPB.out, add0]
    rw [hw1]
    obtain ⟨fs1, hfs1⟩ : ∃ fs1, fs1 = fs.set k ⟨s0.A, s0.raw.set i2 yv, s0.c⟩ := ⟨_, rfl⟩
    have hal := (HTURN.out yv).1
    rw [← hfs1] at hal
    have hl1 : fs1.length = P := by rw [hfs1, List.length_set]; exact HFL.out
    have hof1 : ∀ s ∈ fs1, Oct s.raw ∧ s.raw.length = g + 15 := by
      intro s hs
      rw [hfs1] at hs
      rcases List.mem_or_eq_of_mem_set hs with h9 | h9
      · obtain ⟨m, hm⟩ := List.getElem?_of_mem h9
        have h8 := rws_at HFS.out hm
        exact ⟨HPO.out _ (List.mem_of_getElem? h8), HPN.out _ (List.mem_of_getElem? h8)⟩
      · rw [h9]
        refine ⟨fun b hb => ?_, by simpa using HLN.out⟩
        rcases List.mem_or_eq_of_mem_set hb with h7 | h7
        · exact HSO.out b h7
        · rw [h7]; exact hyo
    have HA1 : Hid (Al u1 (wc.setCell ⟨pb, i2, none⟩ (.int .u8 yv)).drew (.slice (some ga) fs.length c3) fs1) := Lib.hid (hal.later (below_drewN (Below.refl _ _) 1))
    have HL1 := Lib.hid hl1
    have HOF1 := Lib.hid hof1
    have HY9 := Lib.hid (HYT.out (.int .u8 yv))
    clear hyv hw1 hfs1 hal hl1 hof1 rc0 rc1 pc0 pc1 fz fzd x0 x1 x2 x3 x4 z0 z1 z2 z3 z4 HYT HTURN HPA HLN HSO HS0
    generalize (wc.setCell ⟨pb, i2, none⟩ (.int .u8 yv)).drew = W9 at HA1 HY9 ⊢
    obtain ⟨x0, x1, x2, x3, x4⟩ := HY9.out.sb.cells5
    obtain ⟨t0, t1, t2, t3, t4, t5⟩ := HY9.out.sh.cells6
    go_upto_if 60 with fail
    go_cut [] (fun wx => ∃ fs2, Al u1 wx (.slice (some ga) fs.length c3) fs2 ∧ fs2.length = P ∧ (∀ s ∈ fs2, Oct s.raw ∧ s.raw.length = g + 15) ∧ Dy w wx S x #[.int .u8 pg, .int .u8 at_, .int .u8 by_, .int .u8 wh, .bool se])
    case first =>
      rcases se with _ | _
      · go_wp2_with fail
        go_meet
        exact ⟨fs1, HA1.out, HL1.out, HOF1.out, HY9.out⟩
      · obtain ⟨s1, hs1⟩ : ∃ s1, fs1[k]? = some s1 := ⟨_, List.getElem?_eq_getElem (by rw [HL1.out]; exact hkP)⟩
        have hsm := List.mem_of_getElem? hs1
        obtain ⟨hso1, hsl1⟩ := HOF1.out s1 hsm
        have hks1 := HA1.out.each s1 hsm
        have hr1 : Rd W9 (some ga) (scs fs1) := by
          have h9 := HA1.out.row
          rw [show fs1.length = fs.length by rw [HL1.out, HFL.out]] at h9
          exact Rd.of_own h9
        obtain ⟨ga', hga, rc0⟩ := hr1 k (scv s1) (scs_get hs1)
        injection hga with hga
        subst hga
        unfold scv at rc0
        obtain ⟨S1, raw1, cc1⟩ := s1
        simp only at hs1 hso1 hsl1 hks1 rc0
        have hcut := fun W => cut_lo_ 47 1 Try.underlying47 (fun _ => by kernel_rfl) S1 raw1.length cc1 (g + 11) (x.b - 4) (by rw [HXB.out]; omega) (by have := hks1.len; simp only at this; omega) W
        have hsd : ∀ W, Rd W S1 (byv raw1) → Calls Try.prog 17 #[.slice S1 (g + 11) cc1] W fun e w' => ∃ A6 c6, e = .returned (.slice A6 (g + 15) c6) ∧ w'.ownsRow W.heap.size 5 1 (.slice A6 (sealL (raw1.take (g + 11))).length c6) (sealL (raw1.take (g + 11))).length (byv (sealL (raw1.take (g + 11)))) ∧ Below W.heap.size W w' := fun W hW => by
          have hyl : (raw1.take (g + 11)).length = g + 11 := by rw [List.length_take]; omega
          have h9 := sealed_ok S1 cc1 (raw1.take (g + 11)) W (by rw [byv_take]; exact hW.take_ _) (by omega) (hso1.take _)
          rw [hyl] at h9
          refine h9.mono ?_
          rintro e w' ⟨r6, rfl, hown, hb⟩
          obtain ⟨A6, c6, rfl, -, -, -⟩ := own_formc hown
          exact ⟨A6, c6, by rw [sealL_len, hyl], hown, hb⟩
        have HSD := Lib.hid hsd
        have HSO1 := Lib.hid hso1
        have HSL1 := Lib.hid hsl1
        have HRD1 := Lib.hid hks1.rd
        have HYd := Lib.hid (HY9.out.later (below_drewN (Below.refl _ _) 1))
        have rc1 : W9.drew.cell? (ga.add k) = some (.slice S1 raw1.length cc1) := rc0
        obtain ⟨d0, d1, d2, d3, d4, d5⟩ := HYd.out.sh.cells6
        have wb : IntKind.i64.wrap (x.b - 4) = x.b - 4 := IntWalk.i64_in _ (by have := HXB.out; omega)
        have gk0 : (0 : Int) ≤ k := by omega
        have gk1 : (k : Int) < P := by omega
        have hadd : ga.add k = ⟨G, k, none⟩ := by rw [HG.out, add0]
        have HADD := Lib.hid hadd
        clear hs1 hsm hso1 hsl1 hks1 hr1 hsd hadd
        go_upto_region 11 with fail
        go_region_law (first
          | (go_simp; go_at_call 17; (with_reducible refine (HSD.out W9.drew (HRD1.out.later (below_drewN (Below.refl _ _) 1))).mono ?_); rintro e u3 ⟨A6, c6, rfl, hown6, hb6⟩; have HA3 := Lib.hid (HA1.out.later (Below.trans (below_drewN (Below.refl W9.heap.size W9) 1) hb6)); have HY3 := Lib.hid (HYd.out.later hb6); have HOWN := Lib.hid hown6; have rc3 : u3.cell? (ga.add k) = some (.slice S1 raw1.length cc1) := (by rw [hb6.cell (World.block_lt_of_cell? _ _ rc1)]; exact rc1); have fz3 : u3.frozen? (ga.add k) = false := (by rw [HADD.out]; have h9 := HA3.out.row; rw [HG.out, show fs1.length = fs.length by rw [HL1.out, HFL.out]] at h9; exact (own_put (i := k) (y := .slice none 0 0) h9).2.2); clear hown6 hb6)
          | fail "no")
        all_goals
          go_wp2_with fail
          go_meet
          have hyl : (raw1.take (g + 11)).length = g + 11 := by rw [List.length_take, HSL1.out]; omega
          have hsl : (sealL (raw1.take (g + 11))).length = g + 15 := by rw [sealL_len, hyl]
          obtain ⟨A6', c6', he, how⟩ := ow_of (w0 := u1) HOWN.out rfl HA1.out.bel.size
          injection he with he1 he2 he3
          subst he1 he3
          have h9 := HA3.out
          rw [HG.out, show fs.length = fs1.length by rw [HL1.out, HFL.out]] at h9
          have h8 := (h9.put how k).1
          have h7 : scv ⟨A6, sealL (raw1.take (g + 11)), c6⟩ = .slice A6 (g + 15) c6 := by unfold scv; rw [hsl]
          rw [h7, ← HADD.out] at h8
          refine ⟨_, by rw [HG.out, show fs.length = fs1.length by rw [HL1.out, HFL.out]]; rw [HG.out] at h8; exact h8, by rw [List.length_set]; exact HL1.out, fun s hs => ?_, by rw [HADD.out]; exact HY3.out.put h9.row HU1.out⟩
          rcases List.mem_or_eq_of_mem_set hs with h6 | h6
          · exact HOF1.out s h6
          · rw [h6]
            exact ⟨sealL_oct (HSO1.out.take _), hsl⟩
    case rest =>
      obtain ⟨fs2, hA2, hl2, hof2, hY2⟩ := hcut
      have HA2 := Lib.hid hA2
      have HL2 := Lib.hid hl2
      have HOF2 := Lib.hid hof2
      have HYa := Lib.hid hY2
      clear hA2 hl2 hof2 hY2 x0 x1 x2 x3 x4 t0 t1 t2 t3 t4 t5 HA1 HL1 HOF1 HY9
      obtain ⟨x0, x1, x2, x3, x4⟩ := HYa.out.sb.cells5
      obtain ⟨md, hmd⟩ : ∃ md, md = wh % 8 := ⟨_, rfl⟩
      have w8 : (wh : Int) % 8 = (md : Int) := by rw [hmd]; rfl
      have w9 : (wh : Int).tmod 8 = (md : Int) := by rw [Int.tmod_eq_emod_of_nonneg (by omega), hmd]; rfl
      clear hmd
      go_upto_block 0 with fail
      go_cut [2, 10] (fun gn v wx => ∃ (gen' : Nat) (A' : Option Addr) (c' : Nat) (l' : List Sc), gn = .int .u64 gen' ∧ gen' < 18446744073709551616 ∧ v = .slice A' l'.length c' ∧ l'.length ≤ c' ∧ Rd wx A' (scs l') ∧ Hsc wx l' ∧ (∀ s ∈ l', Oct s.raw) ∧ Dy w wx S x #[.int .u8 pg, .int .u8 at_, .int .u8 by_, .int .u8 wh, .bool se])
      case first =>
        have hrA : Rd wc (some ga) (scs fs2) := by
          have h9 := HA2.out.row
          rw [show fs2.length = fs.length by rw [HL2.out, HFL.out]] at h9
          exact Rd.of_own h9
        have HRA2 := Lib.hid hrA
        clear hrA
        by_cases c1 : md = 1
        · have e1 : ((md : Int) == 1) = true := by simp; omega
          obtain ⟨s0, hs0⟩ : ∃ s0, fs2[0]? = some s0 := ⟨_, List.getElem?_eq_getElem (by rw [HL2.out]; omega)⟩
          have hsm := List.mem_of_getElem? hs0
          obtain ⟨ga', hga, rc0⟩ := HRA2.out 0 (scv s0) (scs_get hs0)
          injection hga with hga
          subst hga
          have HKS := Lib.hid (HA2.out.each s0 hsm)
          have HOC := Lib.hid (HOF2.out s0 hsm).1
          obtain ⟨S0, raw0, cc0⟩ := s0
          have hAP := HA2.out
          rw [HFL.out] at hAP
          have hrow := hAP.row
          rw [HL2.out] at hrow
          have HAP2 := Lib.hid hAP
          have HROW := Lib.hid hrow
          unfold scv at rc0
          simp only at rc0
          have rc1 : wc.cell? ga = some (.slice S0 raw0.length cc0) := by rw [HG.out, add0] at rc0; rw [HG.out]; exact rc0
          obtain ⟨i0, hi0, hz0, hz1, hz2⟩ := info_parts (show (Try.prog.info? 47).map (fun i => (i.zero, i.size, i.bytes)) = some (some (.slice none 0 0), 1, 24) by kernel_rfl)
          have g0 : (0 : Int) < P := by omega
          have hP256 : P ≤ 100000 := by omega
          clear c1 hs0 hsm hAP hrow
          go_wp2_with (first
            | (at_builtin; refine wpList_append_any _ rfl _ _ 29 rfl u1.heap.size 47 i0 _ 1 24 Try.underlying29 hi0 hz0 hz1 hz2 rfl (by decide) (.slice (some ga) P c3) P (scs fs2) rfl (HROW.out.alloc _) (some ⟨wc.heap.size, 0, none⟩) 1 1 [.slice S0 raw0.length cc0] rfl rfl (Rd.blk_all (xs := [.slice S0 raw0.length cc0]) (Blk.new wc 47 _)) (by intro u hu; simp at hu; subst hu; rfl) (by unfold maxLen; omega) (by omega) (by have := HA2.out.bel.size; simp; omega) ?_; intro v8 w8 hown8 hg8 hat8; rw [show [Value.slice S0 raw0.length cc0] = scs [⟨S0, raw0, cc0⟩] from rfl, ← HL2.out] at hown8; rw [← HL2.out] at hg8; have HAQ := Lib.hid (HAP2.out.later ((Below.refl _ _).alloc (Nat.le_refl _) (.cells #[.slice S0 raw0.length cc0] 47))); have HA8 := Lib.hid ((show Al u1 _ (.slice (some ga) fs2.length c3) fs2 from by rw [HL2.out]; exact HAQ.out).push (HKS.out.later ((Below.refl _ _).alloc (Nat.le_refl _) _)) hg8 hown8); have HY8 := Lib.hid ((HYa.out.later ((Below.refl _ _).alloc (Nat.le_refl _) (.cells #[.slice S0 raw0.length cc0] 47))).grow HAQ.out.row HU1.out (by rw [← HL2.out]; exact hg8)); obtain ⟨A9, c9, rfl, hr9, hc9, -⟩ := own_formc HA8.out.row; have HR9 := Lib.hid hr9; have HC9 := Lib.hid hc9; clear hown8 hg8 hat8 hr9 hc9)
            | fail "no")
          go_meet
          refine ⟨gen, A9, c9, fs2 ++ [⟨S0, raw0, cc0⟩], rfl, hg, by rw [List.length_append]; rfl, HC9.out, HR9.out, HA8.out.hsc, fun s hs => ?_, HY8.out⟩
          rcases List.mem_append.1 hs with h9 | h9
          · exact (HOF2.out s h9).1
          · simp at h9
            rw [h9]
            exact HOC.out
        by_cases c2 : md = 2
        · have e1 : ((md : Int) == 1) = false := by simp; omega
          have e2 : ((md : Int) == 2) = true := by simp; omega
          have q1 : IntKind.i64.wrap ((P : Int) - 1) = (P : Int) - 1 := IntWalk.i64_in _ (by omega)
          have hcut := fun W => cut_lo_ 29 1 Try.underlying29 (fun _ => by kernel_rfl) (some ga) P c3 (P - 1) ((P : Int) - 1) (by omega) (by have := HC3.out; rw [HFL.out] at this; omega) W
          clear c1 c2
          go_wp2_with fail
          go_meet
          exact ⟨gen, some ga, c3, fs2.take (P - 1), rfl, hg, by rw [List.length_take, HL2.out, Nat.min_eq_left (by omega)], by rw [List.length_take, HL2.out, Nat.min_eq_left (by omega)]; have := HC3.out; rw [HFL.out] at this; omega, by rw [scs_take]; exact HRA2.out.take_ _, HA2.out.hsc.sub fun r hr => List.mem_of_mem_take hr, fun s hs => (HOF2.out s (List.mem_of_mem_take hs)).1, HYa.out⟩
        by_cases c3' : md = 3
        · have e1 : ((md : Int) == 1) = false := by simp; omega
          have e2 : ((md : Int) == 2) = false := by simp; omega
          have e3 : ((md : Int) == 3) = true := by simp; omega
          obtain ⟨s0, hs0⟩ : ∃ s0, fs2[0]? = some s0 := ⟨_, List.getElem?_eq_getElem (by rw [HL2.out]; omega)⟩
          obtain ⟨sk, hsk⟩ : ∃ sk, fs2[k]? = some sk := ⟨_, List.getElem?_eq_getElem (by rw [HL2.out]; exact hkP)⟩
          obtain ⟨ga', hga, rc0⟩ := HRA2.out 0 (scv s0) (scs_get hs0)
          injection hga with hga
          subst hga
          obtain ⟨ga', hga, rck⟩ := HRA2.out k (scv sk) (scs_get hsk)
          injection hga with hga
          subst hga
          have hAP := HA2.out
          rw [HG.out, show fs.length = fs2.length by rw [HL2.out, HFL.out]] at hAP
          obtain ⟨hsw, fz0, fzk⟩ := swap_ok hAP hs0 hsk
          have hysw := (HYa.out.put (i := 0) (y := scv sk) hAP.row HU1.out)
          have hysw2 := Dy.put (i := k) (y := scv s0) hysw (own_put (i := 0) (y := scv sk) hAP.row).1 HU1.out
          have hoc : ∀ s ∈ (fs2.set 0 sk).set k s0, Oct s.raw := fun s hs => by
            rcases List.mem_or_eq_of_mem_set hs with h9 | h9
            · rcases List.mem_or_eq_of_mem_set h9 with h8 | h8
              · exact (HOF2.out s h8).1
              · rw [h8]; exact (HOF2.out sk (List.mem_of_getElem? hsk)).1
            · rw [h9]; exact (HOF2.out s0 (List.mem_of_getElem? hs0)).1
          have ha0 : ga = ⟨G, 0, none⟩ := HG.out
          have hak : ga.add k = ⟨G, k, none⟩ := by rw [HG.out, add0]
          rw [← ha0, ← hak] at hsw hysw2
          rw [← ha0] at fz0 fzk
          rw [← hak] at fzk
          rw [show ga.add 0 = ga by rw [ha0, add0]] at rc0
          unfold scv at rc0 rck fzk hsw hysw2
          have HSW := Lib.hid hsw
          have HYS := Lib.hid hysw2
          have HOC := Lib.hid hoc
          have HA0 := Lib.hid ha0
          have HL3 : Hid (((fs2.set 0 sk).set k s0).length = P) := Lib.hid (by rw [List.length_set, List.length_set]; exact HL2.out)
          have rd0 : wc.drew.cell? ga = some (.slice s0.A s0.raw.length s0.c) := rc0
          have rdk : wc.drew.cell? (ga.add k) = some (.slice sk.A sk.raw.length sk.c) := rck
          have fd0 : wc.drew.frozen? ga = false := fz0
          have fdk : (wc.setCell ga (.slice sk.A sk.raw.length sk.c)).drew.frozen? (ga.add k) = false := fzk
          have ck1 : (wc.setCell ga (.slice sk.A sk.raw.length sk.c)).drew.cell? (ga.add k) = some (.slice sk.A sk.raw.length sk.c) := by
            show (wc.setCell ga (.slice sk.A sk.raw.length sk.c)).cell? (ga.add k) = _
            by_cases h9 : ga = ga.add k
            · rw [← h9]; exact World.cell?_setCell_same _ _ _ rc0
            · rw [World.cell?_setCell_other _ _ _ _ h9]; exact rck
          have g0 : (0 : Int) < P := by omega
          have g1 : (0 : Int) ≤ k := by omega
          have g2 : (k : Int) < P := by omega
          clear c1 c2 c3' hs0 hsk hAP hsw hysw hysw2 hoc ha0 hak
          go_wp2_with fail
          go_region
          go_wp2_with fail
          go_meet
          have h8 := HSW.out.row
          rw [List.length_set, List.length_set] at h8
          exact ⟨gen, some ga, c3, (fs2.set 0 sk).set k s0, rfl, hg, by rw [HL3.out], by rw [HL3.out, ← HFL.out]; exact HC3.out, (Rd.of_own h8).later (below_drewN (Below.refl _ _) 1), HSW.out.hsc.later (below_drewN (Below.refl _ _) 1), HOC.out, HYS.out.later (below_drewN (Below.refl _ _) 1)⟩
        by_cases c5 : md = 5
        · have e1 : ((md : Int) == 1) = false := by simp; omega
          have e2 : ((md : Int) == 2) = false := by simp; omega
          have e3 : ((md : Int) == 3) = false := by simp; omega
          have e4 : ((md : Int) == 4) = false := by simp; omega
          have e5 : ((md : Int) == 5) = true := by simp; omega
          obtain ⟨sk, hsk⟩ : ∃ sk, fs2[k]? = some sk := ⟨_, List.getElem?_eq_getElem (by rw [HL2.out]; exact hkP)⟩
          have hskm := List.mem_of_getElem? hsk
          obtain ⟨ga', hga, rck⟩ := HRA2.out k (scv sk) (scs_get hsk)
          injection hga with hga
          subst hga
          have hAP := HA2.out
          rw [HG.out, show fs.length = fs2.length by rw [HL2.out, HFL.out]] at hAP
          obtain ⟨hoc, hln⟩ := HOF2.out sk hskm
          obtain ⟨S1, raw1, cc1⟩ := sk
          have hcut := fun W => cut_hi_ 47 1 Try.underlying47 (fun _ => by kernel_rfl) S1 raw1.length cc1 1 1 rfl (by simp only at hln; omega) W
          have hks := (hAP.each _ hskm).cut
          obtain ⟨A2, hA2⟩ : ∃ A2, A2 = (if cc1 = 1 then S1 else S1.map (·.add (1 * 1))) := ⟨_, rfl⟩
          rw [← hA2] at hcut hks
          have hpu := (hAP.put hks k)
          have hyp := HYa.out.put (i := k) (y := scv ⟨A2, raw1.drop 1, cc1 - 1⟩) hAP.row HU1.out
          have hoc2 : ∀ s ∈ fs2.set k ⟨A2, raw1.drop 1, cc1 - 1⟩, Oct s.raw := fun s hs => by
            rcases List.mem_or_eq_of_mem_set hs with h9 | h9
            · exact (HOF2.out s h9).1
            · rw [h9]; exact hoc.drop 1
          have hak : ga.add k = ⟨G, k, none⟩ := by rw [HG.out, add0]
          rw [← hak] at hpu hyp
          have hsv : scv ⟨A2, raw1.drop 1, cc1 - 1⟩ = .slice A2 (raw1.length - 1) (cc1 - 1) := by unfold scv; simp only [List.length_drop]
          rw [hsv] at hpu hyp
          obtain ⟨hp1, fzk⟩ := hpu
          unfold scv at rck
          simp only at rck
          have HPU := Lib.hid hp1
          have HYS := Lib.hid hyp
          have HOC := Lib.hid hoc2
          have HL3 : Hid ((fs2.set k ⟨A2, raw1.drop 1, cc1 - 1⟩).length = P) := Lib.hid (by rw [List.length_set]; exact HL2.out)
          have g1 : (0 : Int) ≤ k := by omega
          have g2 : (k : Int) < P := by omega
          clear c1 c2 c3' c5 hskm hsk hAP hoc hln hks hA2 hp1 hyp hoc2 hak hsv
          go_wp2_with fail
          go_meet
          have h8 := HPU.out.row
          rw [List.length_set, ← HG.out] at h8
          exact ⟨gen, some ga, c3, fs2.set k ⟨A2, raw1.drop 1, cc1 - 1⟩, rfl, hg, by rw [HL3.out], by rw [HL3.out, ← HFL.out]; exact HC3.out, Rd.of_own h8, HPU.out.hsc, HOC.out, HYS.out⟩
        have e1 : ((md : Int) == 1) = false := by simp; omega
        have e2 : ((md : Int) == 2) = false := by simp; omega
        have e3 : ((md : Int) == 3) = false := by simp; omega
        have e5 : ((md : Int) == 5) = false := by simp; omega
        by_cases c4 : md = 4
        · have e4 : ((md : Int) == 4) = true := by simp; omega
          obtain ⟨gen2, hgen2⟩ : ∃ gen2 : Nat, gen2 = (gen + 1) % 18446744073709551616 := ⟨_, rfl⟩
          have q1 : IntKind.u64.wrap ((gen : Int) + 1) = (gen2 : Int) := by rw [IntKind.wrap_u64]; omega
          have q2 : gen2 < 18446744073709551616 := by omega
          clear c1 c2 c3' c4 c5 hgen2
          go_wp2_with fail
          go_meet
          exact ⟨gen2, some ga, _, fs2, rfl, q2, by rw [HL2.out], by rw [HL2.out, ← HFL.out]; exact HC3.out, HRA2.out, HA2.out.hsc, fun s hs => (HOF2.out s hs).1, HYa.out⟩
        · have e4 : ((md : Int) == 4) = false := by simp; omega
          clear c1 c2 c3' c4 c5
          go_wp2_with fail
          go_meet
          exact ⟨gen, some ga, _, fs2, rfl, hg, by rw [HL2.out], by rw [HL2.out, ← HFL.out]; exact HC3.out, HRA2.out, HA2.out.hsc, fun s hs => (HOF2.out s hs).1, HYa.out⟩
      case rest =>
        obtain ⟨gen', A', c', l', rfl, hgen', rfl, hlc, hrl, hhl, hol, hyl⟩ := hcut
        have hde := decF HF.out gen' hgen' A' c' l' _ hrl hhl hol hlc
        have hre := fun W h7 h8 => readsF HF.out gen' hgen' A' c' l' W h7 h8 hol hlc
        obtain ⟨hq1, hq2⟩ := decP_len gen' g P s t q l (rws l')
        obtain ⟨yd, hyd⟩ : ∃ yd, yd = decP gen' g P s t q l (rws l') := ⟨_, rfl⟩
        obtain ⟨cd, hcd⟩ : ∃ cd, cd = decC gen' g P s t q l (rws l') := ⟨_, rfl⟩
        rw [← hyd] at hde hre hq1 hq2
        rw [← hcd] at hde hre
        have hfl2 := HF.out.hl
        have hfs2 := HF.out.hs
        have hsm := fun A B A' B' c d c' d' W h1 h2 h3 h4 => same_ok yd A B A' B' c d c' d' W h1 h2 h3 h4 (by omega) (by omega)
        have HDE := Lib.hid hde
        have HRE := Lib.hid hre
        have HSM := Lib.hid hsm
        have HRL := Lib.hid hrl
        have HHL := Lib.hid hhl
        have HYL := Lib.hid hyl
        have ecd : (cd == cd) = true := by simp
        obtain ⟨t0, t1, t2, t3, t4, t5⟩ := HYL.out.sh.cells6
        clear hde hre hsm hrl hhl hyl hyd hcd hq1 hq2 x0 x1 x2 x3 x4
        go_wp2_with (first
          | (go_at_call 10; (with_reducible refine HDE.out.mono ?_); rintro e v1 ⟨⟨A5, c5, B5, d5, rfl, ra5, rb5, -, -⟩, hb5⟩; have HY5 := Lib.hid (HYL.out.later hb5); have HRL5 := Lib.hid (HRL.out.later hb5); have HHL5 := Lib.hid (HHL.out.later hb5); have HRA5 := Lib.hid ra5; have HRB5 := Lib.hid rb5; clear ra5 rb5 hb5; obtain ⟨p0, p1, p2, p3, p4, p5⟩ := HY5.out.sh.cells6; have hlt5 := HY5.out.sh.lt)
          | (go_at_call 18; (with_reducible refine (HRE.out _ (HRL5.out.alloc _) (HHL5.out.later ((Below.refl _ _).alloc (Nat.le_refl _) _))).mono ?_); rintro e v2 ⟨⟨A6, c6, B6, d6, rfl, ra6, rb6, -, -⟩, hb6⟩; have HB13 := Lib.hid ((Blk.new v1 28 #[.int .u64 yd.sq, .int .i64 ((yd.sg : Int) - 1), .int .i64 yd.ix, .slice A5 yd.cs.length c5, .slice B5 yd.mp.length d5]).later hb6); have HY6 := Lib.hid ((HY5.out.later ((Below.refl _ _).alloc (Nat.le_refl _) _)).later hb6); have HRA6 := Lib.hid ra6; have HRB6 := Lib.hid rb6; have HRA7 := Lib.hid ((HRA5.out.alloc _).later hb6); have HRB7 := Lib.hid ((HRB5.out.alloc _).later hb6); clear ra6 rb6 hb6; obtain ⟨q0, q1, q2, q3, q4⟩ := HB13.out.cells5; have hlt6 := HB13.out.lt)
          | (go_at_call 16; (with_reducible refine (HSM.out A5 B5 A6 B6 c5 d5 c6 d6 _ (HRA7.out.alloc _) (HRB7.out.alloc _) (HRA6.out.alloc _) (HRB6.out.alloc _)).mono ?_); rintro e v3 ⟨rfl, hb7⟩; have HBZ := Lib.hid ((HY6.out.bel.alloc HY6.out.bel.size _).trans (hb7.mono (HY6.out.bel.alloc HY6.out.bel.size _).size)); clear hb7)
          | fail "no")
        go_ret
        exact ⟨rfl, HBZ.out⟩
theorem pageSpoilt_true {H : Type} {enc : TypeId × Value → H} {r : Reach} {b0 : Nat} (a b c d e f : Int) (v : Value) (dd : DataW H) (ps : List MemPlace) (gen pg at_ by_ wh : Int) (se : Bool) (w : World)
    (h0 : (Lit.int .u8 a).wf = true) (h1 : (Lit.int .u8 b).wf = true) (h2 : (Lit.int .u8 c).wf = true) (h3 : (Lit.int .u8 d).wf = true) (h4 : (Lit.int .u8 e).wf = true) (h5 : (Lit.int .u8 f).wf = true)
    (k : DataW.Trod enc Try.prog w 0 (fun _ => true) true 43 v dd ps) (o : Value.okWide Try.prog w r b0 43 v) (hg : (Lit.int .u64 gen).wf = true)
    (s0 : (Lit.int .u8 pg).wf = true) (s1 : (Lit.int .u8 at_).wf = true) (s2 : (Lit.int .u8 by_).wf = true) (s3 : (Lit.int .u8 wh).wf = true) {Z : Prop} (_ : Z) :
    Calls Try.prog 6 #[.agg #[.int .u8 a, .int .u8 b, .int .u8 c, .int .u8 d, .int .u8 e, .int .u8 f], v, .int .u64 gen, .agg #[.int .u8 pg, .int .u8 at_, .int .u8 by_, .int .u8 wh, .bool se]] w fun e w' => e = .returned (.bool true) ∧ Below w.heap.size w w' := by
  obtain ⟨y, A, ca, B, cb, rfl, hy, ra, rb⟩ := small_of k o
  have g1 := u64_in_ hg
  have p0 := u8_in_ s0
  have p1 := u8_in_ s1
  have p2 := u8_in_ s2
  have p3 := u8_in_ s3
  obtain ⟨gen, rfl⟩ := Int.eq_ofNat_of_zero_le g1.1
  obtain ⟨pg, rfl⟩ := Int.eq_ofNat_of_zero_le p0.1
  obtain ⟨at_, rfl⟩ := Int.eq_ofNat_of_zero_le p1.1
  obtain ⟨by_, rfl⟩ := Int.eq_ofNat_of_zero_le p2.1
  obtain ⟨wh, rfl⟩ := Int.eq_ofNat_of_zero_le p3.1
  exact spoilt_walk a b c d e f y A B ca cb gen pg at_ by_ wh se w (ok8_of h0 h1 h2 h3 h4 h5) hy ra rb (by omega) (by omega) (by omega) (by omega) (by omega)
end Go.Proofs.Ytcpngnnnggpfpaa
