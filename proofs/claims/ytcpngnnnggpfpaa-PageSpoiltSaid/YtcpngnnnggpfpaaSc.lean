/- Slices of slices of bytes; slices.Clone over them; rows of such that a call has made. No further condition. -/
import Derived.Test.YtcpngnnnggpfpaaByt
import Derived.Test.YtcpngnnnggpfpaaCut
import Derived.Test.YtcpngnnnggpfpaaEc
namespace Go.Proofs.Ytcpngnnnggpfpaa
open Go.RowKit

/-- A slice of bytes: where, what, how much room. -/
structure Sc where
  A : Option Addr
  raw : List Int
  c : Nat
def scv (s : Sc) : Value := .slice s.A s.raw.length s.c
def scs (l : List Sc) : List Value := l.map scv
def rws (l : List Sc) : List (List Int) := l.map Sc.raw
theorem scs_len (l : List Sc) : (scs l).length = l.length := by simp [scs]
theorem rws_len (l : List Sc) : (rws l).length = l.length := by simp [rws]
theorem scs_one (l : List Sc) : ∀ u ∈ scs l, u.oneCell' = true := by
  intro u hu
  obtain ⟨b, _, rfl⟩ := List.mem_map.1 hu
  rfl
theorem scs_app (l m : List Sc) : scs (l ++ m) = scs l ++ scs m := by simp [scs]
theorem scs_take (l : List Sc) (n : Nat) : scs (l.take n) = (scs l).take n := by simp [scs, List.map_take]
theorem scs_drop (l : List Sc) (n : Nat) : scs (l.drop n) = (scs l).drop n := by simp [scs, List.map_drop]
theorem rws_app (l m : List Sc) : rws (l ++ m) = rws l ++ rws m := by simp [rws]
theorem scs_get {l : List Sc} {i : Nat} {s : Sc} (h : l[i]? = some s) : (scs l)[i]? = some (scv s) := by unfold scs; rw [List.getElem?_map, h]; rfl
theorem rws_get {l : List Sc} {i : Nat} {s : Sc} (h : l[i]? = some s) : (rws l)[i]? = some s.raw := by unfold rws; rw [List.getElem?_map, h]; rfl
/-- The bytes of each are there. -/
def Hsc (w : World) (l : List Sc) : Prop := ∀ s ∈ l, s.raw.length ≤ s.c ∧ Rd w s.A (byv s.raw)
theorem Hsc.later {w w' : World} {l : List Sc} (k : Hsc w l) (h : Below w.heap.size w w') : Hsc w' l := fun s hs => ⟨(k s hs).1, (k s hs).2.later h⟩
theorem Hsc.sub {w : World} {l m : List Sc} (k : Hsc w l) (h : ∀ r ∈ m, r ∈ l) : Hsc w m := fun r hr => k r (h r hr)
theorem Hsc.app {w : World} {l m : List Sc} (k : Hsc w l) (h : Hsc w m) : Hsc w (l ++ m) := fun r hr => by
  rcases List.mem_append.1 hr with hr | hr
  · exact k r hr
  · exact h r hr
theorem Rd.cutg {w : World} {A : Option Addr} {xs : List Value} {size c n len : Nat} (k : Rd w A xs) (hl : xs.length = len * size) (hc : len ≤ c) : Rd w (if c = n then A else A.map (·.add (n * size))) (xs.drop (n * size)) := by
  by_cases hcn : c = n
  · have h2 := Nat.mul_le_mul_right size (show len ≤ n by omega)
    rw [List.drop_eq_nil_of_le (by omega)]
    exact Rd.nil _ _
  · rw [if_neg hcn]
    intro j u hu
    rw [List.getElem?_drop] at hu
    obtain ⟨ad, rfl, hcell⟩ := k _ u hu
    exact ⟨_, rfl, by rw [add_of_add]; exact hcell⟩
theorem ownsRow_base {w : World} {b b' : Nat} {e : TypeId} {size n : Nat} {v : Value} {xs : List Value} (k : w.ownsRow b e size v n xs) (h : b' ≤ b) : w.ownsRow b' e size v n xs := by
  refine ⟨k.1, ?_⟩
  rcases k.2 with h1 | ⟨g, cap, cur, e1, hb, r⟩
  · exact .inl h1
  · exact .inr ⟨g, cap, cur, e1, Nat.le_trans h hb, r⟩
set_option maxHeartbeats 3200000 in
theorem cloned_ok (A : Option Addr) (c : Nat) (l : List Sc) (w : World) (hr : Rd w A (scs l)) (hx : l.length * 24 ≤ 140737488355328) :
    Calls Try.prog 13 #[.slice A l.length c] w fun e w' => ∃ r, e = .returned r ∧ w'.ownsRow w.heap.size 47 1 r l.length (scs l) ∧ Below w.heap.size w w' := by
  obtain ⟨i0, hi0, hz0, hz1, hz2⟩ := info_parts (show (Try.prog.info? 47).map (fun i => (i.zero, i.size, i.bytes)) = some (some (.slice none 0 0), 1, 24) by kernel_rfl)
  have HR := Lib.hid (hr.alloc (.cells #[] 47))
  have HN := Lib.hid (Blk.new w 47 #[])
  rcases A with _ | ad
  · have hne := fun (W : World) => Lib.run_eql_slice_nil (P := Try.prog) W 29 47 none 0 c 0 0 Try.underlying29
    have h0 : l = [] := by
      rcases l with _ | ⟨x, xs⟩
      · rfl
      · obtain ⟨ad, e, _⟩ := hr 0 (scv x) rfl
        cases e
    subst h0
    clear hr
    go_enter Try.func13, Try.ntmps13
    go_wp2
    go_ret
    exact ⟨_, rfl, World.ownsRow_nil _ _ _ _, Below.refl _ _⟩
  · have hne := fun (W : World) => Lib.run_eql_slice_nil (P := Try.prog) W 29 47 (some ad) l.length c 0 0 Try.underlying29
    clear hr
    go_enter Try.func13, Try.ntmps13
    go_wp2_with (at_builtin; refine wpList_append_any _ rfl _ _ 29 rfl w.heap.size 47 i0 _ 1 24 Try.underlying29 hi0 hz0 hz1 hz2 rfl (by decide) (.slice (some ⟨w.heap.size, 0, none⟩) 0 0) 0 [] rfl (ownsRow_empty _ _ _ _ _ 0 _ (Nat.le_refl _) HN.out (by unfold maxLen; omega) rfl) (some ad) l.length c (scs l) rfl (by simp [scs_len]) HR.out (scs_one l) (by unfold maxLen; omega) (by omega) (by simp) ?_; intro v1 w1 hown1 hg1 hat1; rw [List.nil_append, Nat.zero_add] at hown1)
    go_ret
    exact ⟨v1, rfl, hown1, ((Below.refl w.heap.size w).alloc (Nat.le_refl _) (.cells #[] 47)).grown hg1 (by simp) fun b hb => by injection hb with hb; exact Nat.le_of_eq hb⟩
/-! ### the row of copies -/
structure Ow (w0 w : World) (s : Sc) : Prop where
  len : s.raw.length ≤ s.c
  rd : Rd w s.A (byv s.raw)
  own : ∀ ad, s.A = some ad → (∃ cur, Blk w ad.block 5 cur) ∧ w0.heap.size ≤ ad.block
section
variable {w0 w w' : World} {s : Sc} {l : List Sc} {v v' : Value}
theorem Ow.later (k : Ow w0 w s) (h : Below w.heap.size w w') : Ow w0 w' s := ⟨k.len, k.rd.later h, fun ad e => by
  obtain ⟨⟨cur, hb⟩, h2⟩ := k.own ad e
  exact ⟨⟨cur, hb.later h⟩, h2⟩⟩
theorem Ow.grown (k : Ow w0 w s) {row : Value} {base n : Nat} {xs : List Value} (hr : w.ownsRow base 47 1 row n xs) (hg : w.grownBy w' row.ownBlock) : Ow w0 w' s := ⟨k.len, k.rd.fr (Fr.of_grown hg) (fun ad e h => by
    obtain ⟨⟨cur, hb⟩, _⟩ := k.own ad e
    exact own_blk_ne hr hb (by decide) h), fun ad e => by
  obtain ⟨⟨cur, hb⟩, h2⟩ := k.own ad e
  exact ⟨⟨cur, hb.grown hg (fun e => own_blk_ne hr hb (by decide) e.symm)⟩, h2⟩⟩
structure Al (w0 w : World) (v : Value) (l : List Sc) : Prop where
  row : w.ownsRow w0.heap.size 47 1 v l.length (scs l)
  each : ∀ s ∈ l, Ow w0 w s
  bel : Below w0.heap.size w0 w
theorem Al.later (k : Al w0 w v l) (h : Below w.heap.size w w') : Al w0 w' v l := ⟨ownsRow_later k.row h, fun s hs => (k.each s hs).later h, k.bel.trans (h.mono k.bel.size)⟩
theorem Al.nil (w : World) : Al w w (.slice none 0 0) [] := ⟨World.ownsRow_nil _ _ _ _, fun s hs => by simp at hs, Below.refl _ _⟩
theorem Al.later' (k : Al w0 w0 v l) (h : Below w0.heap.size w0 w') : Al w0 w' v l := ⟨ownsRow_later k.row h, fun s hs => (k.each s hs).later h, h⟩
theorem Al.push (k : Al w0 w v l) (ks : Ow w0 w s) (hg : w.grownBy w' v.ownBlock) (ho : w'.ownsRow w0.heap.size 47 1 v' (l.length + 1) (scs l ++ scs [s])) : Al w0 w' v' (l ++ [s]) := by
  refine ⟨by rw [scs_app, List.length_append]; exact ho, fun x hx => ?_, k.bel.grown hg k.bel.size (fun b hb => (k.row.lt b hb).1)⟩
  rcases List.mem_append.1 hx with hx | hx
  · exact (k.each x hx).grown k.row hg
  · simp at hx
    rw [hx]
    exact ks.grown k.row hg
theorem Al.hsc (k : Al w0 w v l) : Hsc w l := fun s hs => ⟨(k.each s hs).len, (k.each s hs).rd⟩
end
/-- A row of bytes of the call's own is such an element. -/
theorem ow_of {w0 w : World} {base n : Nat} {v : Value} {xs : List Int} (k : w.ownsRow base 5 1 v n (byv xs)) (hn : n = xs.length) (h0 : w0.heap.size ≤ base) : ∃ A c, v = .slice A xs.length c ∧ Ow w0 w ⟨A, xs, c⟩ := by
  subst hn
  obtain ⟨A, c, rfl, hr, hc, hb⟩ := own_formc k
  refine ⟨A, c, rfl, hc, hr, fun ad (e : A = some ad) => ?_⟩
  rcases k.2 with ⟨e2, _⟩ | ⟨g, cap, cur, e2, h4, hh, _⟩
  · injection e2 with e2
    rw [e] at e2
    cases e2
  · injection e2 with e2
    rw [e] at e2
    injection e2 with e2
    subst e2
    exact ⟨⟨cur, hh⟩, Nat.le_trans h0 h4⟩
theorem cut_lh_ (t size : Nat) (hu : Try.prog.underlying t = some (.slice (Try.prog.elem t))) (hs : ∀ W, (sizeOf (Try.prog.elem t)).run Try.prog W = .ok size W) (A : Option Addr) (len c lo hi : Nat) (zl zh : Int) (hl : zl = lo) (hh : zh = hi) (h1 : lo ≤ hi) (h2 : hi ≤ c) (W : World) :
    (Instr.sliceAt t (.slice A len c) (some (.int .i64 zl)) (some (.int .i64 zh)) none).run Try.prog W = .ok (.slice (if c = lo then A else A.map (·.add (lo * size))) (hi - lo) (c - lo)) W := by
  rw [run_sliceAt_slice (h := hu), run_slice_lh (ht := hu) (h0 := by omega) (h1 := by omega) (h2 := by omega), hs]
  subst hl hh
  simp only [Result.andThen, sliced, Int.toNat_natCast]
end Go.Proofs.Ytcpngnnnggpfpaa
