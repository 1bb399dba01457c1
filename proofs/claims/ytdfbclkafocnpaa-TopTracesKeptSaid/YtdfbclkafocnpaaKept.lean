/- The rewriting of TopTracesKept returns, for every right formula that lies in memory, no formula or one that is true for the same lists of states. Conditions: the formula has at most 60 nodes, and its blocks lie from a given one on. -/
import Derived.Test.YtdfbclkafocnpaaKept0
import Derived.Test.YtdfbclkafocnpaaKept1
import Derived.Test.YtdfbclkafocnpaaKept2
import Derived.Test.YtdfbclkafocnpaaKept3
import Derived.Test.YtdfbclkafocnpaaKept4
namespace Go.Proofs.Ytdfbclkafocnpaa
open Go.RowKit

theorem kept_by (facts how : Int) (hb B : Nat) (w0 : World) (hbox : Blk w0 hb 3 #[.int .i64 how]) (hB : hb < B) : ByOk facts (fun _ => true) 17 #[.pointer (some ⟨hb, 0, none⟩)] B w0 := by
  refine ⟨enters_of Try.func17 (by kernel_rfl) rfl, fun L w lo hb0 hBlo hL hok h60 => ?_⟩
  have hc : w.cell? ⟨hb, 0, none⟩ = some (.int .i64 how) := (hbox.below hb0 hB).cell 0
  obtain ⟨i, hi, hp⟩ := pick_det how 5 (by decide) (by decide)
  match i, hi with
  | 0, _ => exact kept_0 facts how hb lo L w hL hok hc hp
  | 1, _ => exact kept_1 facts how hb lo L w hL hok hc hp
  | 2, _ => exact kept_2 facts how hb lo L w hL hok hc hp
  | 3, _ => exact kept_3 facts how hb lo L w hL hok hc hp
  | 4, _ => exact kept_4 facts how hb lo L w hL hok hc hp
end Go.Proofs.Ytdfbclkafocnpaa
