/- Quanta: Turn of the program's vector: the iterator's contract. -/
import Derived.Test.YtfdldlgnhdgmnaaQc
import Derived.RangeFuncNested
import Derived.RangeFuncBound
import Derived.RangeFuncCalls
import Derived.RangeFuncLeaves
import Derived.Shelf.Abstract
import Derived.Shelf.RegionOpen
import Derived.OwnWalkIn
import Derived.TacticsInMore
import Derived.LoopNIn
import Derived.LoopIn
namespace Go.Proofs.Ytfdldlgnhdgmnaa
open Go.RowKit Go.Shelf
attribute [local go_sem] Oper.semAt_some

/-- A place and whose it is. -/
abbrev Seat := { x : Int × Int // 0 ≤ x.1 ∧ x.1 < 8 ∧ 0 ≤ x.2 ∧ x.2 ≤ 6 }
def Seat.enc (x : Seat) : Array Value := #[.int .i64 x.1.1, .int .u8 x.1.2]
def seatAt (m : QM) (hm : m.Ok) (k : Nat) : Seat :=
  ⟨((m.now + 1 + k) % 8, rd m.pl ((m.now + 1 + k) % 8)), by omega, by omega, (hm.plr' _ (by omega) (by omega)).1, (hm.plr' _ (by omega) (by omega)).2⟩
def seats (m : QM) (hm : m.Ok) (k : Nat) : List Seat := (List.range k).map (seatAt m hm)
theorem seats_succ (m : QM) (hm : m.Ok) (k : Nat) : seats m hm (k + 1) = seats m hm k ++ [seatAt m hm k] := by simp [seats, List.range_succ]

theorem seats_prefix (m : QM) (hm : m.Ok) (k : Nat) (h : k ≤ 8) : seats m hm k <+: seats m hm 8 := by
  refine List.IsPrefix.map _ ?_
  exact List.prefix_iff_eq_take.2 (by rw [List.length_range, List.take_range, Nat.min_eq_left h])
def itT (B b b1 : Nat) (p : Addr) : Prop := p.block = B ∨ p = ⟨b, 0, none⟩ ∨ p.block = b1

theorem round_stops (F : Fence) (n : Nat) (h42 : F.fn 42) (hro : F.round = none) (hn : 1 ≤ n) {w : World} {b b1 b2 B : Nat} {m : QM} (hv : VecAt w b b1 b2 m) (hB : w.cell? ⟨B, 0, none⟩ = some (.pointer (some ⟨b, 0, none⟩))) :
    SeqStopsK F n Try.prog 42 #[.pointer (some ⟨B, 0, none⟩)] Seat.enc (KeepCells (itT B b b1)) (fun xs => xs = seats m hv.ok 8) (fun pre => pre <+: seats m hv.ok 8) 8 w := by
  intro l J Jx W hW hJ hJx hY h0
  have hlt : B < w.heap.size := World.block_lt_of_cell? _ _ hB
  have hB' : W.cell? ⟨B, 0, none⟩ = some (.pointer (some ⟨b, 0, none⟩)) := (hW.cell (p := ⟨B, 0, none⟩) hlt).trans hB
  have c0 : W.cell? ⟨b, 0, none⟩ = some (.slice (some ⟨b1, 0, none⟩) 8 8) := (hW.cell (p := ⟨b, 0, none⟩) (blk_lt hv.s)).trans hv.c0
  have c2 : W.cell? ⟨b, 2, none⟩ = some (.int .i64 m.now) := (hW.cell (p := ⟨b, 2, none⟩) (blk_lt hv.s)).trans hv.c2
  have cp : ∀ i : Int, 0 ≤ i → i < 8 → W.cell? ⟨b1, i.toNat, none⟩ = some (.int .u8 (rd m.pl i)) := fun i h h' => (hW.cell (p := ⟨b1, i.toNat, none⟩) (blk_lt hv.p)).trans (hv.cp i h h')
  have hok := hv.ok
  have n0 := hok.now0
  have n1 := hok.now1
  refine callsIn_of_wp Try.func42 rfl h42 ?_ hro
  simp only [Try.ntmps42, List.size_toArray, List.length_cons, List.length_nil, Nat.reduceAdd, Nat.reduceSub, Array.replicate_succ, Array.replicate_zero, List.push_toArray, List.append_toArray, List.nil_append, List.cons_append]
  have CP := Lib.hid cp
  clear cp
  gi_wp2
  gi_loopw [4, 5, 15] (fun _ _ t15 wr => ∃ k : Nat, k ≤ 8 ∧ t15 = .int .i64 k ∧ J (seats m hok k) wr ∧ Hid (KeepCells (itT B b b1) W wr)) (fun _ _ t15 _ => 8 - (intOf t15).toNat)
  case atStart => exact ⟨0, by omega, rfl, h0, KeepCells.refl _ _⟩
  case round =>
    obtain ⟨k, hk, rfl, hJk, hkeep⟩ := hrel
    by_cases hlt : k < 8
    · have d0 := hkeep.out _ _ (.inl rfl) hB'
      have d1 := hkeep.out _ _ (.inr (.inl rfl)) c0
      have d2 := hkeep.out _ _ (.inr (.inr rfl)) (CP.out ((m.now + 1 + k) % 8) (by omega) (by omega))
      obtain ⟨fn, tmps, assign, body, hy, hR⟩ := hY (seats m hok k) (seatAt m hok k) wr hJk (by simp [seats]; omega)
      simp only [Seat.enc, seatAt] at hy
      clear hB' c0 c2
      have hK2 : ∀ W', KeepCells (itT B b b1) wr W' → Hid (KeepCells (itT B b b1) W W') := fun W' h => Lib.hid (hkeep.out.trans h)
      have HK := Lib.hid hK2
      clear hK2
      have hs := seats_succ m hok k
      have HS := Lib.hid hs
      clear hs hkeep
      gi_wp2
      refine hR.mono ?_
      rintro e W' (⟨rfl, hJ', hk'⟩ | ⟨rfl, hJx'⟩)
      · gi_wp2
        go_roundw
        case rel => exact ⟨k + 1, by omega, by go_num, by rw [HS.out]; exact hJ', HK.out _ hk'⟩
        case measure => simp [intOf]; omega
      · gi_wp2
        refine bodyPost_ret (results_none rfl _ _ _) rfl ?_
        exact ⟨⟨_, rfl⟩, .inr ⟨_, HS.out ▸ seats_prefix m hok (k + 1) (by omega), hJx'⟩⟩
    · have e : k = 8 := by omega
      subst e
      gi_wp2
      go_end0
      exact ⟨⟨_, rfl⟩, .inl ⟨_, rfl, hJk⟩⟩
end Go.Proofs.Ytfdldlgnhdgmnaa
