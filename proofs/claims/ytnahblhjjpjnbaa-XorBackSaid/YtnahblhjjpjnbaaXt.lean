/- Slices of slices of bytes; slices.Clone over them. No further condition. -/
import Derived.Test.YtnahblhjjpjnbaaByt
import Derived.Test.YtnahblhjjpjnbaaCut
import Derived.Test.YtnahblhjjpjnbaaPureXorBut
namespace Go.Proofs.Ytnahblhjjpjnbaa
open Go.RowKit
open Go.Proofs.YtnahblhjjpjnbaaW.PrintWords (Kd)

/-- A slice of bytes: where, what, how much room. -/
structure Sc where
  A : Option Addr
  raw : List Int
  c : Nat
def scv (s : Sc) : Value := .slice s.A s.raw.length s.c
def scs (l : List Sc) : List Value := l.map scv
def rws (l : List Sc) : List (List Int) := l.map Sc.raw
theorem scs_len (l : List Sc) : (scs l).length = l.length := by simp [scs]
theorem rws_len (l : List Sc) : (rws l).length = l.length := by simp [rws]
theorem scs_one (l : List Sc) : ∀ u ∈ scs l, u.oneCell' = true := by
  intro u hu
  obtain ⟨b, _, rfl⟩ := List.mem_map.1 hu
  rfl
theorem scs_app (l m : List Sc) : scs (l ++ m) = scs l ++ scs m := by simp [scs]
theorem scs_take (l : List Sc) (n : Nat) : scs (l.take n) = (scs l).take n := by simp [scs, List.map_take]
theorem scs_drop (l : List Sc) (n : Nat) : scs (l.drop n) = (scs l).drop n := by simp [scs, List.map_drop]
/-- The bytes of each are there. -/
def Hsc (w : World) (l : List Sc) : Prop := ∀ s ∈ l, s.raw.length ≤ s.c ∧ Kd.C (Kd.int .u8) w s.A s.raw.length s.raw
theorem Hsc.later {w w' : World} {l : List Sc} (k : Hsc w l) (h : Below w.heap.size w w') : Hsc w' l := fun s hs => ⟨(k s hs).1, Kd.C_below (k s hs).2 h⟩
theorem Hsc.sub {w : World} {l m : List Sc} (k : Hsc w l) (h : ∀ r ∈ m, r ∈ l) : Hsc w m := fun r hr => k r (h r hr)
theorem Hsc.app {w : World} {l m : List Sc} (k : Hsc w l) (h : Hsc w m) : Hsc w (l ++ m) := fun r hr => by
  rcases List.mem_append.1 hr with hr | hr
  · exact k r hr
  · exact h r hr
theorem rows_of_C {w : World} {A : Option Addr} {xs : List (List Int)} (h : Kd.C (Kd.slice 5 (Kd.int .u8)) w A xs.length xs) : ∃ l : List Sc, rws l = xs ∧ Rd w A (scs l) ∧ Hsc w l := by
  obtain ⟨h1, h2, h3⟩ := h
  obtain ⟨l, hl, hP⟩ := exists_list (α := Sc) (fun i s => xs[i]? = some s.raw ∧ (s.raw.length ≤ s.c ∧ Kd.C (Kd.int .u8) w s.A s.raw.length s.raw) ∧ ∃ ad, A = some ad ∧ w.cell? (ad.add i) = some (scv s)) xs.length (fun i hi => by
    obtain ⟨ad, ha, hc⟩ := h3 (by omega)
    obtain ⟨cs, hs, hK, hcell⟩ := hc i xs[i] (List.getElem?_eq_getElem hi)
    obtain ⟨B, c, rfl, hle, hC⟩ := hK
    refine ⟨⟨B, xs[i], c⟩, List.getElem?_eq_getElem hi, ⟨hle, hC⟩, ad, ha, ?_⟩
    have := hcell 0 _ rfl
    rw [Nat.add_zero, show i * (Kd.slice 5 (Kd.int .u8)).sz = i from Nat.mul_one i] at this
    exact this)
  refine ⟨l, ?_, fun j u hu => ?_, fun s hs => ?_⟩
  · apply List.ext_getElem?
    intro i
    unfold rws
    rw [List.getElem?_map]
    rcases Nat.lt_or_ge i l.length with h | h
    · rw [List.getElem?_eq_getElem h, (hP i _ (List.getElem?_eq_getElem h)).1]
      rfl
    · rw [List.getElem?_eq_none h, List.getElem?_eq_none (by omega)]
      rfl
  · unfold scs at hu
    rw [List.getElem?_map] at hu
    rcases hj : l[j]? with _ | s
    · rw [hj] at hu; cases hu
    · rw [hj] at hu
      injection hu with hu
      subst hu
      exact (hP j s hj).2.2
  · obtain ⟨i, hi⟩ := List.mem_iff_getElem?.1 hs
    exact (hP i s hi).2.1
theorem C_of_rows {w : World} {A : Option Addr} {l : List Sc} (h : Rd w A (scs l)) (hh : Hsc w l) (hl : l.length ≤ 9223372036854775807) : Kd.C (Kd.slice 5 (Kd.int .u8)) w A (rws l).length (rws l) := by
  refine ⟨rfl, by rw [rws_len]; exact hl, fun hn => ?_⟩
  rw [rws_len] at hn
  obtain ⟨ad, ha, _⟩ := h 0 (scv l[0]) (by unfold scs; rw [List.getElem?_map, List.getElem?_eq_getElem hn]; rfl)
  refine ⟨ad, ha, fun j p hj => ?_⟩
  unfold rws at hj
  rw [List.getElem?_map] at hj
  rcases hs : l[j]? with _ | s
  · rw [hs] at hj; cases hj
  · rw [hs] at hj
    injection hj with hj
    subst hj
    refine ⟨[scv s], rfl, ⟨s.A, s.c, rfl, hh s (List.mem_of_getElem? hs)⟩, fun i u hu => ?_⟩
    rcases i with _ | i
    · injection hu with hu
      subst hu
      obtain ⟨ad', e, hc⟩ := h j (scv s) (by unfold scs; rw [List.getElem?_map, hs]; rfl)
      rw [ha] at e
      injection e with e
      subst e
      rw [Nat.add_zero, show j * (Kd.slice 5 (Kd.int .u8)).sz = j from Nat.mul_one j]
      exact hc
    · cases hu
theorem bytes_of_C {w : World} {A : Option Addr} {xs : List Int} (h : Kd.C (Kd.int .u8) w A xs.length xs) : Rd w A (byv xs) := fun j u hu => by
  unfold byv at hu
  rw [List.getElem?_map] at hu
  rcases hs : xs[j]? with _ | x
  · rw [hs] at hu; cases hu
  · rw [hs] at hu
    injection hu with hu
    subst hu
    have hj : j < xs.length := (List.getElem?_eq_some_iff.1 hs).1
    obtain ⟨ad, ha, hc⟩ := h.2.2 (by omega)
    obtain ⟨cs, _, hK, hcell⟩ := hc j x hs
    have hK' : cs = [.int .u8 x] := hK
    subst hK'
    have := hcell 0 _ rfl
    rw [Nat.add_zero, show j * (Kd.int .u8).sz = j from Nat.mul_one j] at this
    exact ⟨ad, ha, this⟩
theorem C_of_bytes {w : World} {A : Option Addr} {xs : List Int} (h : Rd w A (byv xs)) (hl : xs.length ≤ 9223372036854775807) : Kd.C (Kd.int .u8) w A xs.length xs := by
  refine ⟨rfl, hl, fun hn => ?_⟩
  obtain ⟨ad, ha, _⟩ := h 0 (.int .u8 xs[0]) (by unfold byv; rw [List.getElem?_map, List.getElem?_eq_getElem hn]; rfl)
  refine ⟨ad, ha, fun j p hj => ⟨[.int .u8 p], rfl, rfl, fun i u hu => ?_⟩⟩
  rcases i with _ | i
  · injection hu with hu
    subst hu
    obtain ⟨ad', e, hc⟩ := h j (.int .u8 p) (by unfold byv; rw [List.getElem?_map, hj]; rfl)
    rw [ha] at e
    injection e with e
    subst e
    rw [Nat.add_zero, show j * (Kd.int .u8).sz = j from Nat.mul_one j]
    exact hc
  · cases hu
theorem Rd.cutg {w : World} {A : Option Addr} {xs : List Value} {size c n len : Nat} (k : Rd w A xs) (hl : xs.length = len * size) (hc : len ≤ c) : Rd w (if c = n then A else A.map (·.add (n * size))) (xs.drop (n * size)) := by
  by_cases hcn : c = n
  · have h2 := Nat.mul_le_mul_right size (show len ≤ n by omega)
    rw [List.drop_eq_nil_of_le (by omega)]
    exact Rd.nil _ _
  · rw [if_neg hcn]
    intro j u hu
    rw [List.getElem?_drop] at hu
    obtain ⟨ad, rfl, hcell⟩ := k _ u hu
    exact ⟨_, rfl, by rw [add_of_add]; exact hcell⟩
theorem ownsRow_base {w : World} {b b' : Nat} {e : TypeId} {size n : Nat} {v : Value} {xs : List Value} (k : w.ownsRow b e size v n xs) (h : b' ≤ b) : w.ownsRow b' e size v n xs := by
  refine ⟨k.1, ?_⟩
  rcases k.2 with h1 | ⟨g, cap, cur, e1, hb, r⟩
  · exact .inl h1
  · exact .inr ⟨g, cap, cur, e1, Nat.le_trans h hb, r⟩
theorem own_formc {w : World} {base : Nat} {e : TypeId} {size n : Nat} {v : Value} {xs : List Value} (k : w.ownsRow base e size v n xs) : ∃ A c, v = .slice A n c ∧ Rd w A xs ∧ n ≤ c ∧ ∀ ad, A = some ad → base ≤ ad.block := by
  rcases k.2 with ⟨rfl, rfl⟩ | ⟨g, cap, cur, rfl, h4, _, h5, _⟩
  · exact ⟨none, 0, rfl, Rd.of_own k, Nat.le_refl _, fun _ e => by cases e⟩
  · exact ⟨some ⟨g, 0, none⟩, cap, rfl, Rd.of_own k, h5, fun _ e => by injection e with e; subst e; exact h4⟩
set_option maxHeartbeats 3200000 in
theorem cloned_ok (A : Option Addr) (c : Nat) (l : List Sc) (w : World) (hr : Rd w A (scs l)) (hx : l.length * 24 ≤ 140737488355328) :
    Calls Try.prog 14 #[.slice A l.length c] w fun e w' => ∃ r, e = .returned r ∧ w'.ownsRow w.heap.size 25 1 r l.length (scs l) ∧ Below w.heap.size w w' := by
  obtain ⟨i0, hi0, hz0, hz1, hz2⟩ := info_parts (show (Try.prog.info? 25).map (fun i => (i.zero, i.size, i.bytes)) = some (some (.slice none 0 0), 1, 24) by kernel_rfl)
  have HR := Lib.hid (hr.alloc (.cells #[] 25))
  have HN := Lib.hid (Blk.new w 25 #[])
  rcases A with _ | ad
  · have hne := fun (W : World) => Lib.run_eql_slice_nil (P := Try.prog) W 22 25 none 0 c 0 0 Try.underlying22
    have h0 : l = [] := by
      rcases l with _ | ⟨x, xs⟩
      · rfl
      · obtain ⟨ad, e, _⟩ := hr 0 (scv x) rfl
        cases e
    subst h0
    clear hr
    go_enter Try.func14, Try.ntmps14
    go_wp2
    go_ret
    exact ⟨_, rfl, World.ownsRow_nil _ _ _ _, Below.refl _ _⟩
  · have hne := fun (W : World) => Lib.run_eql_slice_nil (P := Try.prog) W 22 25 (some ad) l.length c 0 0 Try.underlying22
    clear hr
    go_enter Try.func14, Try.ntmps14
    go_wp2_with (at_builtin; refine wpList_append_any _ rfl _ _ 22 rfl w.heap.size 25 i0 _ 1 24 Try.underlying22 hi0 hz0 hz1 hz2 rfl (by decide) (.slice (some ⟨w.heap.size, 0, none⟩) 0 0) 0 [] rfl (ownsRow_empty _ _ _ _ _ 0 _ (Nat.le_refl _) HN.out (by unfold maxLen; omega) rfl) (some ad) l.length c (scs l) rfl (by simp [scs_len]) HR.out (scs_one l) (by unfold maxLen; omega) (by omega) (by simp) ?_; intro v1 w1 hown1 hg1 hat1; rw [List.nil_append, Nat.zero_add] at hown1)
    go_ret
    exact ⟨v1, rfl, hown1, ((Below.refl w.heap.size w).alloc (Nat.le_refl _) (.cells #[] 25)).grown hg1 (by simp) fun b hb => by injection hb with hb; exact Nat.le_of_eq hb⟩
end Go.Proofs.Ytnahblhjjpjnbaa
