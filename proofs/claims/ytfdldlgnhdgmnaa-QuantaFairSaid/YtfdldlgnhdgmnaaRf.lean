/- Quanta: play, walked. -/
import Derived.Test.YtfdldlgnhdgmnaaRe
namespace Go.Proofs.Ytfdldlgnhdgmnaa
open Go.RowKit

/-- A slice of deeds, read in memory. -/
def DeedsAt (w : World) (A : Option Addr) (n : Nat) (ds : Nat → Deed) : Prop := ∀ i, i < n → ∃ a, A = some a ∧ (ds i).Ok ∧ w.cell? (a.add (i * 4)) = some (.int .i64 (ds i).kd) ∧
  w.cell? ⟨(a.add (i * 4)).block, (a.add (i * 4)).off + 1, none⟩ = some (.int .i64 (ds i).place) ∧ w.cell? ⟨(a.add (i * 4)).block, (a.add (i * 4)).off + 2, none⟩ = some (.int .u8 (ds i).env) ∧ w.cell? ⟨(a.add (i * 4)).block, (a.add (i * 4)).off + 3, none⟩ = some (.int .u8 (ds i).tgt)
theorem DeedsAt.below {w w' A n ds} (h : DeedsAt w A n ds) (hb : Below w.heap.size w w') : DeedsAt w' A n ds := fun i hi => by
  obtain ⟨a, h1, h2, h3, h4, h5, h6⟩ := h i hi
  exact ⟨a, h1, h2, (hb.cell (World.block_lt_of_cell? _ _ h3)).trans h3, (hb.cell (World.block_lt_of_cell? _ _ h4)).trans h4, (hb.cell (World.block_lt_of_cell? _ _ h5)).trans h5, (hb.cell (World.block_lt_of_cell? _ _ h6)).trans h6⟩
structure Where.From (l : Where) (B : Nat) : Prop where
  b : B ≤ l.b
  b1 : B ≤ l.b1
  b2 : B ≤ l.b2
  r : B ≤ l.r
def PlayL (w : World) (e : Ending) (w' : World) : Prop := ∃ (l : Where) (m : QM), e = .returned (.tuple #[.pointer (some ⟨l.b, 0, none⟩), .pointer (some ⟨l.r, 0, none⟩), .bool true]) ∧ VecAt w' l.b l.b1 l.b2 m ∧ RefAt w' l.r m ∧ Below w.heap.size w w' ∧ l.From w.heap.size

set_option maxRecDepth 100000 in
theorem play_ok {w : World} {A : Option Addr} {n c : Nat} {ds : Nat → Deed} (hd : DeedsAt w A n ds) (hn : n ≤ 9223372036854775807) : Calls Try.prog 16 #[.slice A n c] w (PlayL w) := by
  have HD := Lib.hid hd
  clear hd
  go_enter Try.func16, Try.ntmps16
  go_wp2_with fail
  refine (New_ok _).mono ?_
  rintro e w1 ⟨b, b1, b2, rfl, hv, hb, l0, l1, l2⟩
  go_wp2_with fail
  refine (rNew_ok _).mono ?_
  rintro e w2 ⟨r, rfl, hr, hb2, l3⟩
  obtain ⟨l, hl⟩ : ∃ l : Where, l = ⟨b, b1, b2, r⟩ := ⟨_, rfl⟩
  have e0 : b = l.b := by rw [hl]
  have e1 : b1 = l.b1 := by rw [hl]
  have e2 : b2 = l.b2 := by rw [hl]
  have e3 : r = l.r := by rw [hl]
  subst e0 e1 e2 e3
  clear hl
  have HF : Hid (l.From w.heap.size) := ⟨l0, l1, l2, by have := hb.size; omega⟩
  have HV := Lib.hid (hv.only (Only.of_below (S := []) hb2) (by simp) (by simp) (by simp))
  have HR := Lib.hid hr
  have HB := Lib.hid (hb.trans (hb2.mono hb.size))
  clear hv hr hb hb2 l0 l1 l2 l3
  go_wp2
  go_loopw [7] (fun i wr => ∃ k : Nat, k ≤ n ∧ k ≤ 60 ∧ i = .int .i64 k ∧ Hid (∃ m, VecAt wr l.b l.b1 l.b2 m ∧ RefAt wr l.r m ∧ Below w.heap.size w wr)) (fun i _ => n - (intOf i).toNat)
  case atStart => exact ⟨0, by omega, by omega, rfl, ⟨_, HV.out, HR.out, HB.out⟩⟩
  case round =>
    obtain ⟨k, hk, hk6, rfl, hm⟩ := hrel
    obtain ⟨m, hv, hr, hb⟩ := hm
    by_cases hlt : k < n
    · by_cases h60 : k < 60
      · obtain ⟨a, rfl, hx, d0, d1, d2, d3⟩ := (HD.out.below hb) k hlt
        have T := do_ok (ds k) hv hr hx
        unfold Deed.val at T
        have Hb := Lib.hid hb
        clear hv hr hb
        go_wp2_with fail
        refine T.mono ?_
        rintro e w4 ⟨rfl, HD4⟩
        have Hm : Hid (∃ m, VecAt w4 l.b l.b1 l.b2 m ∧ RefAt w4 l.r m ∧ Below w.heap.size w w4) :=
          ⟨_, HD4.out.1, HD4.out.2.1, Hb.out.trans (HD4.out.2.2.below Hb.out.size (by intro x hx; have := HF.out.b; have := HF.out.b1; have := HF.out.b2; have := HF.out.r; simp at hx; omega))⟩
        clear T HD4
        go_wp2
        go_roundw
        case rel => exact ⟨k + 1, by omega, by omega, by go_num, Hm⟩
        case measure => simp [intOf]; omega
      · have Hm : Hid (∃ m, VecAt wr l.b l.b1 l.b2 m ∧ RefAt wr l.r m ∧ Below w.heap.size w wr) := ⟨m, hv, hr, hb⟩
        clear hv hr hb
        go_wp2
        go_ret3
        obtain ⟨m, h1, h2, h3⟩ := Hm.out
        exact ⟨l, m, rfl, h1, h2, h3, HF.out⟩
    · have Hm : Hid (∃ m, VecAt wr l.b l.b1 l.b2 m ∧ RefAt wr l.r m ∧ Below w.heap.size w wr) := ⟨m, hv, hr, hb⟩
      clear hv hr hb
      go_wp2
      go_ret3
      obtain ⟨m, h1, h2, h3⟩ := Hm.out
      exact ⟨l, m, rfl, h1, h2, h3, HF.out⟩
end Go.Proofs.Ytfdldlgnhdgmnaa
