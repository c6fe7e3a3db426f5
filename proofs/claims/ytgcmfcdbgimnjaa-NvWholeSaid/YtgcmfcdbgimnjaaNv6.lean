/- A law's memory without a limit, and the walk of chapter 07's Awake. No further condition. -/
import Derived.Test.YtgcmfcdbgimnjaaNv5
namespace Go.Proofs.Ytgcmfcdbgimnjaa
open Go.RowKit
attribute [local go_sem ↓] Go.wp_at_zero Go.wp_at_succ

/-- A law's memory, all of it made by the law's call; it holds few records. -/
structure NvL (w0 w : World) (g h : Nat) (used : Int) (l : List Rc) (next : Int) (r : Rt) : Prop where
  nv : ∃ v, NvS w w0.heap.size g h used (-1) v l next r
  bel : Below w0.heap.size w0 w
  far : w0.heap.size ≤ g ∧ w0.heap.size ≤ h
  few : l.length ≤ 1000 ∧ (∀ x ∈ l, x.raw.length ≤ 1000) ∧ 0 ≤ used ∧ used ≤ 1000 ∧ 0 ≤ next ∧ next ≤ 1000
section
variable {w0 w w' : World} {g h : Nat} {used next : Int} {l : List Rc} {r : Rt}
theorem NvL.later (k : NvL w0 w g h used l next r) (hb : Below w.heap.size w w') : NvL w0 w' g h used l next r := by
  obtain ⟨v, hv⟩ := k.nv
  exact ⟨⟨v, hv.later hb⟩, k.bel.trans (hb.mono k.bel.size), k.far, k.few⟩
theorem NvL.to {u2 n2 : Int} {l2 : List Rc} {r2 : Rt} {v v2 : Value} (k : NvL w0 w g h used l next r) (hv : NvS w w0.heap.size g h used (-1) v l next r) (t : NvTo w w' w0.heap.size g h v u2 (-1) v2 l2 n2 r2) (hf : l2.length ≤ 1000 ∧ (∀ x ∈ l2, x.raw.length ≤ 1000) ∧ 0 ≤ u2 ∧ u2 ≤ 1000 ∧ 0 ≤ n2 ∧ n2 ≤ 1000) : NvL w0 w' g h u2 l2 n2 r2 :=
  ⟨⟨v2, t.nv⟩, k.bel.trans (t.fr.toBelow k.bel.size fun b hb => by
    have := k.far
    rintro (e | e | e)
    · omega
    · omega
    · have := (hv.row.lt b e).1; omega), k.far, hf⟩
end
theorem newL (w0 w : World) (hb : Below w0.heap.size w0 w) (h : Nat) (hp : Blk w h 60 #[.int .i64 0, .int .i64 (-1)]) (hh : w0.heap.size ≤ h) : Calls Try.prog 8 #[.pointer (some ⟨h, 0, none⟩)] w fun e w' => ∃ g, e = .returned (.pointer (some ⟨g, 0, none⟩)) ∧ NvL w0 w' g h 0 [] 1 rc0 := by
  refine (new_ok w0.heap.size h 0 (-1) w hp).mono ?_
  rintro e w' ⟨rfl, h1, h2⟩
  exact ⟨_, rfl, ⟨_, h1⟩, hb.trans (h2.mono hb.size), ⟨hb.size, hh⟩, by simp⟩
theorem setL {w0 w : World} {g h : Nat} {used next : Int} {l : List Rc} {r : Rt} (k : NvL w0 w g h used l next r) (r' : Rt) (hu : used ≤ 999) : Calls Try.prog 10 #[.pointer (some ⟨g, 0, none⟩), .agg (rta r')] w fun e w' => e = .returned (.tuple #[]) ∧ NvL w0 w' g h (used + 1) l next r' := by
  obtain ⟨v, hv⟩ := k.nv
  have hf := k.few
  refine (set_ok _ g h used (-1) v l next r r' w hv (.inl (by decide)) (by omega) (by omega)).mono ?_
  rintro e w' ⟨rfl, h1, h2⟩
  exact ⟨rfl, k.to hv ⟨h1, h2.mono (fun b _ e => by rcases e with e | e; exact .inl e; exact .inr (.inl e)), .inl rfl⟩ ⟨hf.1, hf.2.1, by omega, by omega, hf.2.2.2.2⟩⟩
theorem appH {w0 w : World} {g h : Nat} {used next : Int} {l : List Rc} {r : Rt} (k : NvL w0 w g h used l next r) (kd lb : Int) (A0 : Option Addr) (raw : List Int) (c0 : Nat) (hr : Rd w A0 (byv raw)) (hraw : raw.length ≤ 1000) (hA : ∀ ad, A0 = some ad → ad.block ≠ h) (hn : l.length ≤ 999) (hu : used ≤ 999) (hx : next ≤ 999) (hf : (l.length : Int) < r.n) :
    Calls Try.prog 12 #[.pointer (some ⟨g, 0, none⟩), .int .i64 kd, .int .i64 lb, .slice A0 raw.length c0] w fun e w' => e = .returned (.int .i64 0) ∧ ∃ x, x.con = (next, kd, lb, raw) ∧ (∀ ad, x.A = some ad → w.heap.size ≤ ad.block) ∧ NvL w0 w' g h (used + 1) (l ++ [x]) (next + 1) r ∧ ∀ b, b < w.heap.size → b ≠ g → b ≠ h → (∀ t cs, Blk w b t cs → t ≠ 45 → w'.heap[b]? = w.heap[b]?) := by
  obtain ⟨v, hv⟩ := k.nv
  obtain ⟨f1, f2, f3, f4, f5, f6⟩ := k.few
  refine (nvappend_ok _ g h used (-1) v l next r kd lb A0 raw c0 w hv hr (by omega) (by omega) hf k.bel.size (.inl (by decide)) (by omega) (by omega) f5 (by omega) (fun ad e _ => hA ad e)).mono ?_
  rintro e w' ⟨rfl, x, v', hx2, hxa, ht⟩
  refine ⟨rfl, x, hx2, hxa, k.to hv ht ⟨by simp; omega, ?_, by omega, by omega, by omega, by omega⟩, fun b hb hg hh t cs hbk hne => ht.fr.block b hb ?_⟩
  · intro y hy
    rcases List.mem_append.1 hy with hy | hy
    · exact f2 y hy
    · simp at hy
      rw [hy, show x.raw = raw from congrArg (fun q => q.2.2.2) hx2]
      exact hraw
  · rintro (e | e | e)
    · exact hg e
    · exact hh e
    · exact own_blk_ne hv.row hbk (fun q => hne q.symm) e
theorem appL {w0 w : World} {g h : Nat} {used next : Int} {l : List Rc} {r : Rt} (k : NvL w0 w g h used l next r) (kd lb : Int) (A0 : Option Addr) (raw : List Int) (c0 : Nat) (hr : Rd w A0 (byv raw)) (hraw : raw.length ≤ 1000) (hA : ∀ ad, A0 = some ad → ad.block < w0.heap.size) (hn : l.length ≤ 999) (hu : used ≤ 999) (hx : next ≤ 999) (hf : (l.length : Int) < r.n) :
    Calls Try.prog 12 #[.pointer (some ⟨g, 0, none⟩), .int .i64 kd, .int .i64 lb, .slice A0 raw.length c0] w fun e w' => e = .returned (.int .i64 0) ∧ ∃ x, x.con = (next, kd, lb, raw) ∧ NvL w0 w' g h (used + 1) (l ++ [x]) (next + 1) r := by
  refine (appH k kd lb A0 raw c0 hr hraw (fun ad e => by have := hA ad e; have := k.far.2; omega) hn hu hx hf).mono ?_
  rintro e w' ⟨rfl, x, h1, -, h2, -⟩
  exact ⟨rfl, x, h1, h2⟩
theorem appN {w0 w : World} {g h : Nat} {used next : Int} {l : List Rc} {r : Rt} (k : NvL w0 w g h used l next r) (kd lb : Int) (hn : l.length ≤ 999) (hu : used ≤ 999) (hx : next ≤ 999) (hf : (l.length : Int) < r.n) :
    Calls Try.prog 12 #[.pointer (some ⟨g, 0, none⟩), .int .i64 kd, .int .i64 lb, .slice none 0 0] w fun e w' => e = .returned (.int .i64 0) ∧ ∃ x, x.con = (next, kd, lb, []) ∧ NvL w0 w' g h (used + 1) (l ++ [x]) (next + 1) r :=
  appL k kd lb none [] 0 (Rd.nil _ _) (by decide) (fun ad e => by cases e) hn hu hx hf
theorem fullL {w0 w : World} {g h : Nat} {used next : Int} {l : List Rc} {r : Rt} (k : NvL w0 w g h used l next r) (kd lb : Int) (u : Value) (hf : r.n ≤ l.length) :
    Calls Try.prog 12 #[.pointer (some ⟨g, 0, none⟩), .int .i64 kd, .int .i64 lb, u] w fun e w' => e = .returned (.int .i64 7) ∧ NvL w0 w' g h used l next r := by
  obtain ⟨v, hv⟩ := k.nv
  refine (nvfull_ok _ g h used (-1) v l next r kd lb u w hv (by have := k.few.1; omega) hf).mono ?_
  rintro e w' ⟨rfl, n, rfl⟩
  exact ⟨rfl, k.later (below_drewN (Below.refl _ _) n)⟩
theorem comL {w0 w : World} {g h : Nat} {used next : Int} {l : List Rc} {r : Rt} (k : NvL w0 w g h used l next r) (dur q : Int) (hu : used ≤ 999) :
    Calls Try.prog 11 #[.pointer (some ⟨g, 0, none⟩), .int .u64 dur, .int .u64 q] w fun e w' => e = .returned (.tuple #[]) ∧ NvL w0 w' g h (used + 1) (keep q l) next { r with dur := dur } := by
  obtain ⟨v, hv⟩ := k.nv
  obtain ⟨f1, f2, f3, f4, f5, f6⟩ := k.few
  refine (commit_ok _ g h used (-1) v l next r dur q w hv (by omega) (.inl (by decide)) (by omega) (by omega)).mono ?_
  rintro e w' ⟨rfl, v', ht⟩
  exact ⟨rfl, k.to hv ht ⟨by have := keep_len q l; omega, fun x hx => f2 x ((List.mem_filter.1 hx).1), by omega, by omega, f5, f6⟩⟩
theorem recL {w0 w : World} {g h : Nat} {used next : Int} {l : List Rc} {r : Rt} (k : NvL w0 w g h used l next r) :
    Calls Try.prog 13 #[.pointer (some ⟨g, 0, none⟩)] w fun e w' => ∃ v' m, e = .returned v' ∧ m.map Rc.con = l.map Rc.con ∧ Rw w' w.heap.size v' m ∧ Below w.heap.size w w' := by
  obtain ⟨v, hv⟩ := k.nv
  exact records_ok _ g h used (-1) v l next r w hv (by have := k.few.1; omega) (fun x hx => by have := k.few.2.1 x hx; omega)
theorem lenL {w0 w : World} {g h : Nat} {used next : Int} {l : List Rc} {r : Rt} (k : NvL w0 w g h used l next r) : Calls Try.prog 14 #[.pointer (some ⟨g, 0, none⟩)] w fun e w' => e = .returned (.int .i64 l.length) ∧ w' = w := by
  obtain ⟨v, hv⟩ := k.nv
  exact len_ok _ g h used (-1) v l next r w hv
set_option maxRecDepth 100000 in
set_option maxHeartbeats 6400000 in
theorem awake_ok (w : World) : Calls Try.prog 7 #[] w fun e w' => e = .returned (.bool true) ∧ Below w.heap.size w w' := by
  go_enter Try.func7, Try.ntmps7
  go_wp2_with (first
    | (go_at_call 9; (with_reducible refine (pnew_ok (-1) _).mono ?_); rintro e w1 ⟨rfl, hp1, hw1⟩; have HB1 : Hid (Below w.heap.size w w1) := Lib.hid (by rw [hw1]; exact (Below.refl _ _).alloc (Nat.le_refl _) _); have HP1 := Lib.hid hp1; clear hp1 hw1)
    | (go_at_call 8; (with_reducible refine (newL w w1 HB1.out _ HP1.out (Nat.le_refl _)).mono ?_); rintro e w2 ⟨g, rfl, hk2⟩; have HK2 := Lib.hid hk2; clear hk2)
    | (go_at_call 10; (refine (setL HK2.out ⟨0, 0, 0, 0, 1, 0, 0, 0, 0⟩ (by decide)).mono ?_); rintro e w3 ⟨rfl, hk3⟩; have HK3 := Lib.hid hk3; clear hk3)
    | (go_at_call 12; (with_reducible refine (appN HK3.out 1 0 (by decide) (by decide) (by decide) (by decide)).mono ?_); rintro e w4 ⟨rfl, x, hx, hk4⟩; have HX := Lib.hid hx; have HK4 := Lib.hid hk4; clear hx hk4)
    | (go_at_call 12; (with_reducible refine (fullL HK4.out 1 0 _ (by simp)).mono ?_); rintro e w5 ⟨rfl, hk5⟩; have HK5 := Lib.hid hk5; clear hk5)
    | (go_at_call 11; (with_reducible refine (comL HK5.out 1 1 (by decide)).mono ?_); rintro e w6 ⟨rfl, hk6⟩; have hkp : keep 1 ([] ++ [x]) = [] := (by have hq : x.seq = 1 := congrArg (fun q => q.1) HX.out; simp [keep, upq, hq]); rw [hkp] at hk6; have HK6 := Lib.hid hk6; clear hk6 hkp)
    | (go_at_call 12; (with_reducible refine (appN HK6.out 2 0 (by simp) (by decide) (by decide) (by simp)).mono ?_); rintro e w7 ⟨rfl, y, hy, hk7⟩; have HK7 := Lib.hid hk7; clear hy hk7)
    | (go_at_call 14; (refine (lenL HK7.out).mono ?_); rintro e w8 ⟨rfl, hw8⟩; subst w8)
    | fail "no")
  go_ret
  exact ⟨rfl, HK7.out.bel⟩
end Go.Proofs.Ytgcmfcdbgimnjaa
