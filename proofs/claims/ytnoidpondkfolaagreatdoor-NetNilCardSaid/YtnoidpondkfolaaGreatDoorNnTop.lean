/- The run of the anchor: it answers yes; all that lay there is as it was. -/
import Derived.Test.YtnoidpondkfolaaGreatDoorExH
import Derived.Test.YtnoidpondkfolaaGreatDoorNnR0
import Derived.Test.YtnoidpondkfolaaGreatDoorNnR1
import Derived.Test.YtnoidpondkfolaaGreatDoorNnR2
import Derived.Test.YtnoidpondkfolaaGreatDoorNnR3
import Derived.Test.YtnoidpondkfolaaGreatDoorNnR4
import Derived.Test.YtnoidpondkfolaaGreatDoorNnR5
import Derived.Test.YtnoidpondkfolaaGreatDoorNnR6
import Derived.Test.YtnoidpondkfolaaGreatDoorNnR7
import Derived.Test.YtnoidpondkfolaaGreatDoorNnR8
import Derived.Test.YtnoidpondkfolaaGreatDoorNnR9
namespace Go.Proofs.YtnoidpondkfolaaGreatDoor
open Go.Ex
theorem top_ok : AllOK Tryz.prog [e0, e4, e42, e46, e51, e52, e53] := (.cons e0_ok (.cons e4_ok (.cons e42_ok (.cons e46_ok (.cons e51_ok (.cons e52_ok (.cons e53_ok AllOK.nil)))))))
def first : List Nat := [1779033703, 3144134277, 1013904242, 2773480762, 1359893119, 2600822924, 528734635, 1541459225]
def table : List Nat := [1116352408, 1899447441, 3049323471, 3921009573, 961987163, 1508970993, 2453635748, 2870763221, 3624381080, 310598401, 607225278, 1426881987, 1925078388, 2162078206, 2614888103, 3248222580, 3835390401, 4022224774, 264347078, 604807628, 770255983, 1249150122, 1555081692, 1996064986, 2554220882, 2821834349, 2952996808, 3210313671, 3336571891, 3584528711, 113926993, 338241895, 666307205, 773529912, 1294757372, 1396182291, 1695183700, 1986661051, 2177026350, 2456956037, 2730485921, 2820302411, 3259730800, 3345764771, 3516065817, 3600352804, 4094571909, 275423344, 430227734, 506948616, 659060556, 883997877, 958139571, 1322822218, 1537002063, 1747873779, 1955562222, 2024104815, 2227730452, 2361852424, 2428436474, 2756734187, 3204031479, 3329325298]
def tabs : Tabs := [(0, first), (1, table)]
noncomputable def run : Ent := ⟨11, [], 1000, tabs.pre, tt, 3109, []⟩
theorem run_ok : run.OK Tryz.prog := ⟨_, rec_ok top_ok, by kernel_rfl⟩
theorem works_any {w : World} (h : tabs.lie w) : Calls Tryz.prog 11 #[] w fun e w' => e = .returned (.bool true) ∧ RowKit.Below w.heap.size w w' := by
  refine (run_ok.closed (r := tabs) rfl rfl rfl (by decide) (by simp [tabs]) (fun b d d' h1 h2 => ?_) h).mono fun e w' hE => ?_
  · simp only [tabs, List.mem_cons, List.not_mem_nil, or_false, Prod.mk.injEq] at h1 h2
    rcases h1 with ⟨rfl, rfl⟩ | ⟨rfl, rfl⟩ <;> rcases h2 with ⟨h, rfl⟩ | ⟨h, rfl⟩ <;> first | rfl | cases h
  · obtain ⟨u, ρ', rfl, h1, h2⟩ := hE
    have h1 : u = .bool true := h1
    exact ⟨by rw [h1], h2⟩
end Go.Proofs.YtnoidpondkfolaaGreatDoor
