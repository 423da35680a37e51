/- A new tree (function 61), the walk. Over the whole program of the cut; no condition beyond those that each theorem names. -/
import Derived.Test.YtkoipiolcnielaaGreatDoorShS
namespace Go.Proofs.Sh
open Go.RowKit

set_option maxRecDepth 100000 in
set_option maxHeartbeats 2000000 in
theorem tree_new (s m : Nat) (es : List MapEntry) (ks : List ByteArray) (nm : ByteArray) (k q : Int) (p : Option Addr) (l cp b cb : Nat) (w : World) (ha : At s m es ks w)
    (hmiss : ks.findIdx? (· == nm) = none)
    (h0 : w.cell? ⟨b, 0, none⟩ = some (.int .u8 k)) (h1 : w.cell? ⟨b, 1, none⟩ = some (.string nm)) (h2 : w.cell? ⟨b, 2, none⟩ = some (.slice p l cp)) (h3 : w.cell? ⟨b, 3, none⟩ = some (.int .i64 q)) :
    Calls Tryz.prog 61 #[.pointer (some ⟨s, 0, none⟩), .slice (some ⟨b, 0, none⟩) 1 cb] w
      (KeepRet s m es ks nm (.iface 222 (.agg #[.slice none 0 0])) (.slice none 0 0) w) := by
  have HM := Lib.hid hmiss; clear hmiss
  have HA := Lib.hid ha; clear ha
  go_enter Tryz.func61, Tryz.ntmps61
  go_wp2_with (go_at_call 85; refine (keep_new s m es ks nm k q p l cp 222 _ none 0 0 _ HA.out HM.out).mono ?_; rintro e w3 ⟨rfl, hat, hk⟩)
  go_ret2
  exact ⟨rfl, hat, hk⟩
end Go.Proofs.Sh
