/- The walk of law31.TableHashes. -/
import Derived.Test.YtggffmbhpgioaaaDoorZl
namespace Go.Proofs.YtggffmbhpgioaaaDoor
open Go Go.RowKit Go.Shelf
set_option linter.unusedSimpArgs false

set_option maxHeartbeats 8000000 in
set_option maxRecDepth 100000 in
theorem law_hashes (w : World) (key : ByteArray) (A : Option Addr) (ca : Nat) (l : List Int) (role : Int) (hk : key.size ≤ 9223372036854775807) (hl : l.length ≤ 9223372036854775807) (hi : ∀ n ∈ l, I64 n) (ha : IntS w A l) (hr : I64 role) (ht : Tb w) :
    Calls Tryd.prog 3 #[.string key, .slice A l.length ca, .int .i64 role] w (OutB w (.bool true)) := by
  have HT := Lib.hid ht
  clear ht
  by_cases h1 : 300 < key.size
  · have h2 : (300 : Int) < (key.size : Int) := by omega
    clear hi ha hr
    go_enter Tryd.func3, Tryd.ntmps3
    go_wp2_with fail
    refine (awake_any _ HT.out).mono ?_
    rintro e w1 ⟨rfl, hb⟩
    have HB := Lib.hid hb
    clear hb
    go_wp2_with fail
    go_ret
    exact ⟨rfl, HB.out⟩
  by_cases h2 : 300 < l.length
  · have h3 : (300 : Int) < (l.length : Int) := by omega
    have h4 : (key.size : Int) ≤ 300 := by omega
    clear hi ha hr
    go_enter Tryd.func3, Tryd.ntmps3
    go_wp2_with fail
    refine (awake_any _ HT.out).mono ?_
    rintro e w1 ⟨rfl, hb⟩
    have HB := Lib.hid hb
    clear hb
    go_wp2_with fail
    go_ret
    exact ⟨rfl, HB.out⟩
  have h3 : (l.length : Int) ≤ 300 := by omega
  have h4 : (key.size : Int) ≤ 300 := by omega
  have h5 : l.length ≤ 300 := by omega
  have CK := Lib.hid (fun (w' : World) (hb : Below w.heap.size w w') => key_any w' A ca l role (by omega) hr hi (ha.keep hb) (HT.out.below hb))
  have CR := Lib.hid (fun (w' : World) (hb : Below w.heap.size w w') => rkey_any w' A ca l role (by omega) hr hi (ha.keep hb) (HT.out.below hb))
  have CH := Lib.hid (fun w => hash_any w key hk)
  have CS := Lib.hid (fun w => rhash_any w key hk)
  clear hi ha hr h1 h2
  generalize hashF key.data.toList = hh at *
  generalize (⟨(keyF l role).toArray⟩ : ByteArray) = kk at *
  go_enter Tryd.func3, Tryd.ntmps3
  go_wp2_with fail
  refine (CH.out _).mono ?_
  rintro e w1 ⟨rfl, rfl⟩
  go_wp2_with fail
  refine (CS.out _).mono ?_
  rintro e w1 ⟨rfl, rfl⟩
  go_wp2_with fail
  refine (CK.out _ (Below.refl _ _)).mono ?_
  rintro e w1 ⟨rfl, hb⟩
  have HB1 := Lib.hid hb
  clear hb
  go_wp2_with fail
  refine (CR.out _ HB1.out).mono ?_
  rintro e w2 ⟨rfl, hb⟩
  have HB2 := Lib.hid (HB1.out.trans (hb.mono HB1.out.size))
  clear hb
  go_wp2_with fail
  refine (awake_any _ (HT.out.below HB2.out)).mono ?_
  rintro e w3 ⟨rfl, hb⟩
  have HB3 := Lib.hid (HB2.out.trans (hb.mono HB2.out.size))
  clear hb
  go_wp2_with fail
  go_ret
  exact ⟨rfl, HB3.out⟩
end Go.Proofs.YtggffmbhpgioaaaDoor
