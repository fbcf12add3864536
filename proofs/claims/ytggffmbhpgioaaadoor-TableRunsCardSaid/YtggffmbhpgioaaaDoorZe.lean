/- The table as plain data: entries, bounds, the plain operations; how entries lie in memory. -/
import Derived.Test.YtggffmbhpgioaaaDoorZd
import Derived.OwnWalk
namespace Go.Proofs.YtggffmbhpgioaaaDoor
open Go Go.RowKit Go.Shelf
set_option linter.unusedSimpArgs false

/-- bounds: two fractions -/
structure Bd where
  (a b c e : Int)
deriving DecidableEq
/-- an entry -/
structure En where
  (u : Bool) (k : ByteArray) (d : Int) (b : Bd)
def bd0 : Bd := ⟨0, 0, 0, 0⟩
def en0 : En := ⟨false, ⟨#[]⟩, 0, bd0⟩
def bdCells (b : Bd) : List Value := [.int .i64 b.a, .int .i64 b.b, .int .i64 b.c, .int .i64 b.e]
def enCells (x : En) : List Value := [.bool x.u, .string x.k, .int .i64 x.d, .int .i64 x.b.a, .int .i64 x.b.b, .int .i64 x.b.c, .int .i64 x.b.e]
def bdV (b : Bd) : Value := .agg #[.int .i64 b.a, .int .i64 b.b, .int .i64 b.c, .int .i64 b.e]
def enV (x : En) : Value := .agg #[.bool x.u, .string x.k, .int .i64 x.d, .int .i64 x.b.a, .int .i64 x.b.b, .int .i64 x.b.c, .int .i64 x.b.e]

set_option maxHeartbeats 1000000 in
set_option maxRecDepth 100000 in
theorem pclo_any (w : World) (x : En) (key : ByteArray) (kb : Nat) (hk : w.cell? ⟨kb, 0, none⟩ = some (.string key)) :
    Calls Tryd.prog 33 #[enV x, .pointer (some ⟨kb, 0, none⟩)] w (OutB w (.bool (x.k.toList == key.toList))) := by
  obtain ⟨u, k, d, ⟨a, b, c, e⟩⟩ := x
  have hlt := World.block_lt_of_cell? w _ hk
  have hk2 := (World.cell?_alloc_lt w (.cells #[.bool u, .string k, .int .i64 d, .int .i64 a, .int .i64 b, .int .i64 c, .int .i64 e] 76) ⟨kb, 0, none⟩ hlt).trans hk
  unfold enV
  go_enter Tryd.func33, Tryd.ntmps33
  go_wp2_with fail
  go_ret
  exact ⟨rfl, (Below.refl _ _).alloc (Nat.le_refl _) _⟩

/-- does an entry answer for a key and a depth (its key is the first one's) -/
def fitB (x : En) (key : ByteArray) (n : Int) : Bool := (x.k.toList == key.toList) && (x.d == n || (x.b.a == x.b.c && x.b.b == x.b.e) && decide (x.d ≤ n))
set_option maxHeartbeats 1000000 in
set_option maxRecDepth 100000 in
theorem gclo_any (w : World) (x : En) (key : ByteArray) (n : Int) (kb nb : Nat) (hk : w.cell? ⟨kb, 0, none⟩ = some (.string key)) (hn : w.cell? ⟨nb, 0, none⟩ = some (.int .i64 n)) :
    Calls Tryd.prog 34 #[enV x, .pointer (some ⟨kb, 0, none⟩), .pointer (some ⟨nb, 0, none⟩)] w (OutB w (.bool (fitB x key n))) := by
  obtain ⟨u, k, d, ⟨a, b, c, e⟩⟩ := x
  have hlt := World.block_lt_of_cell? w _ hk
  have hltn := World.block_lt_of_cell? w _ hn
  have hk2 := (World.cell?_alloc_lt w (.cells #[.bool u, .string k, .int .i64 d, .int .i64 a, .int .i64 b, .int .i64 c, .int .i64 e] 76) ⟨kb, 0, none⟩ hlt).trans hk
  have hn2 := (World.cell?_alloc_lt w (.cells #[.bool u, .string k, .int .i64 d, .int .i64 a, .int .i64 b, .int .i64 c, .int .i64 e] 76) ⟨nb, 0, none⟩ hltn).trans hn
  unfold enV
  go_enter Tryd.func34, Tryd.ntmps34
  go_wp2_with fail
  all_goals
    go_ret
    refine ⟨?_, (Below.refl _ _).alloc (Nat.le_refl _) _⟩
    simp_all [fitB]
end Go.Proofs.YtggffmbhpgioaaaDoor
