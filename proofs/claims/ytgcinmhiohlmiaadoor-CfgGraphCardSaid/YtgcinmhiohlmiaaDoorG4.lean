/- Contracts of functions, by their numbers, and the laws that walk them. Conditions: as each states. -/
import Derived.Test.YtgcinmhiohlmiaaDoorProg
import Derived.KernelRfl
import Derived.Test.YtgcinmhiohlmiaaDoorG3
set_option linter.all false
section
set_option linter.all false
namespace Go.Proofs
open Go.Fw
theorem mixed : Tryd.prog.follows .mixedOrders = true := by kernel_rfl
@[simp] theorem sz2 : szOf Tryd.prog 2 = some 1 := by kernel_rfl
@[simp] theorem ag2 : aggB Tryd.prog 2 = some false := by kernel_rfl
@[simp] theorem ei2 : eInfo Tryd.prog 2 = some (1, 8) := by kernel_rfl
@[simp] theorem ze2 : zeroA Tryd.prog 2 = some [.p (.c (.int .i64 0))] := by kernel_rfl
@[simp] theorem zo2 : zero1 Tryd.prog 2 = some (.p (.c (.int .i64 0))) := by kernel_rfl
@[simp] theorem sz3 : szOf Tryd.prog 3 = some 1 := by kernel_rfl
@[simp] theorem ag3 : aggB Tryd.prog 3 = some false := by kernel_rfl
@[simp] theorem ei3 : eInfo Tryd.prog 3 = some (1, 8) := by kernel_rfl
@[simp] theorem ze3 : zeroA Tryd.prog 3 = some [.p (.c (.int .i64 0))] := by kernel_rfl
@[simp] theorem zo3 : zero1 Tryd.prog 3 = some (.p (.c (.int .i64 0))) := by kernel_rfl
@[simp] theorem sz4 : szOf Tryd.prog 4 = some 1 := by kernel_rfl
@[simp] theorem ag4 : aggB Tryd.prog 4 = some false := by kernel_rfl
@[simp] theorem ei4 : eInfo Tryd.prog 4 = some (1, 1) := by kernel_rfl
@[simp] theorem ze4 : zeroA Tryd.prog 4 = some [.p (.c (.bool false))] := by kernel_rfl
@[simp] theorem zo4 : zero1 Tryd.prog 4 = some (.p (.c (.bool false))) := by kernel_rfl
@[simp] theorem sz5 : szOf Tryd.prog 5 = some 1 := by kernel_rfl
@[simp] theorem ag5 : aggB Tryd.prog 5 = some false := by kernel_rfl
@[simp] theorem ei5 : eInfo Tryd.prog 5 = some (1, 1) := by kernel_rfl
@[simp] theorem ze5 : zeroA Tryd.prog 5 = some [.p (.c (.int .u8 0))] := by kernel_rfl
@[simp] theorem zo5 : zero1 Tryd.prog 5 = some (.p (.c (.int .u8 0))) := by kernel_rfl
@[simp] theorem sz9 : szOf Tryd.prog 9 = some 1 := by kernel_rfl
@[simp] theorem ag9 : aggB Tryd.prog 9 = some false := by kernel_rfl
@[simp] theorem ei9 : eInfo Tryd.prog 9 = some (1, 16) := by kernel_rfl
@[simp] theorem ze9 : zeroA Tryd.prog 9 = some [.p (.c (.string ⟨#[]⟩))] := by kernel_rfl
@[simp] theorem zo9 : zero1 Tryd.prog 9 = some (.p (.c (.string ⟨#[]⟩))) := by kernel_rfl
@[simp] theorem sz21 : szOf Tryd.prog 21 = some 1 := by kernel_rfl
@[simp] theorem ag21 : aggB Tryd.prog 21 = some false := by kernel_rfl
@[simp] theorem ei21 : eInfo Tryd.prog 21 = some (1, 4) := by kernel_rfl
@[simp] theorem ze21 : zeroA Tryd.prog 21 = some [.p (.c (.int .i32 0))] := by kernel_rfl
@[simp] theorem zo21 : zero1 Tryd.prog 21 = some (.p (.c (.int .i32 0))) := by kernel_rfl
@[simp] theorem sz22 : szOf Tryd.prog 22 = some 1 := by kernel_rfl
@[simp] theorem ag22 : aggB Tryd.prog 22 = some false := by kernel_rfl
@[simp] theorem ei22 : eInfo Tryd.prog 22 = some (1, 24) := by kernel_rfl
@[simp] theorem ze22 : zeroA Tryd.prog 22 = some [.z] := by kernel_rfl
@[simp] theorem zo22 : zero1 Tryd.prog 22 = some (.z) := by kernel_rfl
@[simp] theorem sz23 : szOf Tryd.prog 23 = some 2 := by kernel_rfl
@[simp] theorem ag23 : aggB Tryd.prog 23 = some true := by kernel_rfl
@[simp] theorem ei23 : eInfo Tryd.prog 23 = some (2, 40) := by kernel_rfl
@[simp] theorem ze23 : zeroA Tryd.prog 23 = some [.p (.c (.string ⟨#[]⟩)), .z] := by kernel_rfl
@[simp] theorem sz24 : szOf Tryd.prog 24 = some 2 := by kernel_rfl
@[simp] theorem ag24 : aggB Tryd.prog 24 = some true := by kernel_rfl
@[simp] theorem ei24 : eInfo Tryd.prog 24 = some (2, 40) := by kernel_rfl
@[simp] theorem ze24 : zeroA Tryd.prog 24 = some [.p (.c (.string ⟨#[]⟩)), .z] := by kernel_rfl
@[simp] theorem sz26 : szOf Tryd.prog 26 = some 1 := by kernel_rfl
@[simp] theorem ag26 : aggB Tryd.prog 26 = some false := by kernel_rfl
@[simp] theorem ei26 : eInfo Tryd.prog 26 = some (1, 24) := by kernel_rfl
@[simp] theorem ze26 : zeroA Tryd.prog 26 = some [.z] := by kernel_rfl
@[simp] theorem zo26 : zero1 Tryd.prog 26 = some (.z) := by kernel_rfl
@[simp] theorem sz27 : szOf Tryd.prog 27 = some 1 := by kernel_rfl
@[simp] theorem ag27 : aggB Tryd.prog 27 = some false := by kernel_rfl
@[simp] theorem ei27 : eInfo Tryd.prog 27 = some (1, 8) := by kernel_rfl
@[simp] theorem ze27 : zeroA Tryd.prog 27 = some [.p (.c (.int .i64 0))] := by kernel_rfl
@[simp] theorem zo27 : zero1 Tryd.prog 27 = some (.p (.c (.int .i64 0))) := by kernel_rfl
@[simp] theorem sz34 : szOf Tryd.prog 34 = some 1 := by kernel_rfl
@[simp] theorem ag34 : aggB Tryd.prog 34 = some false := by kernel_rfl
@[simp] theorem ei34 : eInfo Tryd.prog 34 = some (1, 24) := by kernel_rfl
@[simp] theorem ze34 : zeroA Tryd.prog 34 = some [.z] := by kernel_rfl
@[simp] theorem zo34 : zero1 Tryd.prog 34 = some (.z) := by kernel_rfl
@[simp] theorem sz38 : szOf Tryd.prog 38 = some 1 := by kernel_rfl
@[simp] theorem ag38 : aggB Tryd.prog 38 = some false := by kernel_rfl
@[simp] theorem ei38 : eInfo Tryd.prog 38 = some (1, 24) := by kernel_rfl
@[simp] theorem ze38 : zeroA Tryd.prog 38 = some [.z] := by kernel_rfl
@[simp] theorem zo38 : zero1 Tryd.prog 38 = some (.z) := by kernel_rfl
@[simp] theorem sz42 : szOf Tryd.prog 42 = some 1 := by kernel_rfl
@[simp] theorem ag42 : aggB Tryd.prog 42 = some false := by kernel_rfl
@[simp] theorem ei42 : eInfo Tryd.prog 42 = some (1, 24) := by kernel_rfl
@[simp] theorem ze42 : zeroA Tryd.prog 42 = some [.z] := by kernel_rfl
@[simp] theorem zo42 : zero1 Tryd.prog 42 = some (.z) := by kernel_rfl
@[simp] theorem sz43 : szOf Tryd.prog 43 = some 2 := by kernel_rfl
@[simp] theorem ag43 : aggB Tryd.prog 43 = some true := by kernel_rfl
@[simp] theorem ei43 : eInfo Tryd.prog 43 = some (2, 32) := by kernel_rfl
@[simp] theorem ze43 : zeroA Tryd.prog 43 = some [.p (.c (.int .i64 0)), .z] := by kernel_rfl
@[simp] theorem sz44 : szOf Tryd.prog 44 = some 2 := by kernel_rfl
@[simp] theorem ag44 : aggB Tryd.prog 44 = some true := by kernel_rfl
@[simp] theorem ei44 : eInfo Tryd.prog 44 = some (2, 32) := by kernel_rfl
@[simp] theorem ze44 : zeroA Tryd.prog 44 = some [.p (.c (.int .i64 0)), .z] := by kernel_rfl
@[simp] theorem sz48 : szOf Tryd.prog 48 = some 1 := by kernel_rfl
@[simp] theorem ag48 : aggB Tryd.prog 48 = some false := by kernel_rfl
@[simp] theorem ei48 : eInfo Tryd.prog 48 = some (1, 24) := by kernel_rfl
@[simp] theorem ze48 : zeroA Tryd.prog 48 = some [.z] := by kernel_rfl
@[simp] theorem zo48 : zero1 Tryd.prog 48 = some (.z) := by kernel_rfl
@[simp] theorem sz49 : szOf Tryd.prog 49 = some 1 := by kernel_rfl
@[simp] theorem ag49 : aggB Tryd.prog 49 = some false := by kernel_rfl
@[simp] theorem ei49 : eInfo Tryd.prog 49 = some (1, 24) := by kernel_rfl
@[simp] theorem ze49 : zeroA Tryd.prog 49 = some [.z] := by kernel_rfl
@[simp] theorem zo49 : zero1 Tryd.prog 49 = some (.z) := by kernel_rfl
@[simp] theorem sz50 : szOf Tryd.prog 50 = some 1 := by kernel_rfl
@[simp] theorem ag50 : aggB Tryd.prog 50 = some false := by kernel_rfl
@[simp] theorem ei50 : eInfo Tryd.prog 50 = some (1, 24) := by kernel_rfl
@[simp] theorem ze50 : zeroA Tryd.prog 50 = some [.z] := by kernel_rfl
@[simp] theorem zo50 : zero1 Tryd.prog 50 = some (.z) := by kernel_rfl
@[simp] theorem sz51 : szOf Tryd.prog 51 = some 1 := by kernel_rfl
@[simp] theorem ag51 : aggB Tryd.prog 51 = some false := by kernel_rfl
@[simp] theorem ei51 : eInfo Tryd.prog 51 = some (1, 24) := by kernel_rfl
@[simp] theorem ze51 : zeroA Tryd.prog 51 = some [.z] := by kernel_rfl
@[simp] theorem zo51 : zero1 Tryd.prog 51 = some (.z) := by kernel_rfl
@[simp] theorem sz52 : szOf Tryd.prog 52 = some 5 := by kernel_rfl
@[simp] theorem ag52 : aggB Tryd.prog 52 = some true := by kernel_rfl
@[simp] theorem ei52 : eInfo Tryd.prog 52 = some (5, 120) := by kernel_rfl
@[simp] theorem ze52 : zeroA Tryd.prog 52 = some [.z, .z, .z, .z, .z] := by kernel_rfl
@[simp] theorem sz53 : szOf Tryd.prog 53 = some 5 := by kernel_rfl
@[simp] theorem ag53 : aggB Tryd.prog 53 = some true := by kernel_rfl
@[simp] theorem ei53 : eInfo Tryd.prog 53 = some (5, 120) := by kernel_rfl
@[simp] theorem ze53 : zeroA Tryd.prog 53 = some [.z, .z, .z, .z, .z] := by kernel_rfl
@[simp] theorem sz55 : szOf Tryd.prog 55 = some 1 := by kernel_rfl
@[simp] theorem ag55 : aggB Tryd.prog 55 = some false := by kernel_rfl
@[simp] theorem ei55 : eInfo Tryd.prog 55 = some (1, 24) := by kernel_rfl
@[simp] theorem ze55 : zeroA Tryd.prog 55 = some [.z] := by kernel_rfl
@[simp] theorem zo55 : zero1 Tryd.prog 55 = some (.z) := by kernel_rfl
@[simp] theorem sz63 : szOf Tryd.prog 63 = some 8 := by kernel_rfl
@[simp] theorem ag63 : aggB Tryd.prog 63 = some true := by kernel_rfl
@[simp] theorem ei63 : eInfo Tryd.prog 63 = some (8, 64) := by kernel_rfl
@[simp] theorem ze63 : zeroA Tryd.prog 63 = some [.p (.c (.int .i64 0)), .p (.c (.int .i64 0)), .p (.c (.int .i64 0)), .p (.c (.int .i64 0)), .p (.c (.int .i64 0)), .p (.c (.int .i64 0)), .p (.c (.int .i64 0)), .p (.c (.int .i64 0))] := by kernel_rfl
@[simp] theorem sz65 : szOf Tryd.prog 65 = some 3 := by kernel_rfl
@[simp] theorem ag65 : aggB Tryd.prog 65 = some true := by kernel_rfl
@[simp] theorem ei65 : eInfo Tryd.prog 65 = some (3, 24) := by kernel_rfl
@[simp] theorem ze65 : zeroA Tryd.prog 65 = some [.p (.c (.int .i64 0)), .p (.c (.int .i64 0)), .p (.c (.int .i64 0))] := by kernel_rfl
@[simp] theorem eqo65 : eqOk Tryd.prog 65 = true := by kernel_rfl
@[simp] theorem sz66 : szOf Tryd.prog 66 = some 3 := by kernel_rfl
@[simp] theorem ag66 : aggB Tryd.prog 66 = some true := by kernel_rfl
@[simp] theorem ei66 : eInfo Tryd.prog 66 = some (3, 24) := by kernel_rfl
@[simp] theorem ze66 : zeroA Tryd.prog 66 = some [.p (.c (.int .i64 0)), .p (.c (.int .i64 0)), .p (.c (.int .i64 0))] := by kernel_rfl
@[simp] theorem eqo66 : eqOk Tryd.prog 66 = true := by kernel_rfl
@[simp] theorem sz67 : szOf Tryd.prog 67 = some 1 := by kernel_rfl
@[simp] theorem ag67 : aggB Tryd.prog 67 = some false := by kernel_rfl
@[simp] theorem ei67 : eInfo Tryd.prog 67 = some (1, 8) := by kernel_rfl
@[simp] theorem ze67 : zeroA Tryd.prog 67 = some [.p (.c (.int .i64 0))] := by kernel_rfl
@[simp] theorem zo67 : zero1 Tryd.prog 67 = some (.p (.c (.int .i64 0))) := by kernel_rfl
@[simp] theorem sz68 : szOf Tryd.prog 68 = some 1 := by kernel_rfl
@[simp] theorem ag68 : aggB Tryd.prog 68 = some false := by kernel_rfl
@[simp] theorem ei68 : eInfo Tryd.prog 68 = some (1, 8) := by kernel_rfl
@[simp] theorem ze68 : zeroA Tryd.prog 68 = some [.p (.c (.int .i64 0))] := by kernel_rfl
@[simp] theorem zo68 : zero1 Tryd.prog 68 = some (.p (.c (.int .i64 0))) := by kernel_rfl
@[simp] theorem sz69 : szOf Tryd.prog 69 = some 1 := by kernel_rfl
@[simp] theorem ag69 : aggB Tryd.prog 69 = some false := by kernel_rfl
@[simp] theorem ei69 : eInfo Tryd.prog 69 = some (1, 8) := by kernel_rfl
@[simp] theorem ze69 : zeroA Tryd.prog 69 = some [.p (.c (.int .i64 0))] := by kernel_rfl
@[simp] theorem zo69 : zero1 Tryd.prog 69 = some (.p (.c (.int .i64 0))) := by kernel_rfl
@[simp] theorem sz70 : szOf Tryd.prog 70 = some 8 := by kernel_rfl
@[simp] theorem ag70 : aggB Tryd.prog 70 = some true := by kernel_rfl
@[simp] theorem ei70 : eInfo Tryd.prog 70 = some (8, 64) := by kernel_rfl
@[simp] theorem ze70 : zeroA Tryd.prog 70 = some [.p (.c (.int .i64 0)), .p (.c (.int .i64 0)), .p (.c (.int .i64 0)), .p (.c (.int .i64 0)), .p (.c (.int .i64 0)), .p (.c (.int .i64 0)), .p (.c (.int .i64 0)), .p (.c (.int .i64 0))] := by kernel_rfl
@[simp] theorem eqo70 : eqOk Tryd.prog 70 = true := by kernel_rfl
@[simp] theorem sz71 : szOf Tryd.prog 71 = some 8 := by kernel_rfl
@[simp] theorem ag71 : aggB Tryd.prog 71 = some true := by kernel_rfl
@[simp] theorem ei71 : eInfo Tryd.prog 71 = some (8, 64) := by kernel_rfl
@[simp] theorem ze71 : zeroA Tryd.prog 71 = some [.p (.c (.int .i64 0)), .p (.c (.int .i64 0)), .p (.c (.int .i64 0)), .p (.c (.int .i64 0)), .p (.c (.int .i64 0)), .p (.c (.int .i64 0)), .p (.c (.int .i64 0)), .p (.c (.int .i64 0))] := by kernel_rfl
@[simp] theorem eqo71 : eqOk Tryd.prog 71 = true := by kernel_rfl
@[simp] theorem sz82 : szOf Tryd.prog 82 = some 1 := by kernel_rfl
@[simp] theorem ag82 : aggB Tryd.prog 82 = some false := by kernel_rfl
@[simp] theorem ei82 : eInfo Tryd.prog 82 = some (1, 8) := by kernel_rfl
@[simp] theorem ze82 : zeroA Tryd.prog 82 = some [.p (.c (.map none))] := by kernel_rfl
@[simp] theorem zo82 : zero1 Tryd.prog 82 = some (.p (.c (.map none))) := by kernel_rfl
@[simp] theorem sz84 : szOf Tryd.prog 84 = some 1 := by kernel_rfl
@[simp] theorem ag84 : aggB Tryd.prog 84 = some false := by kernel_rfl
@[simp] theorem ei84 : eInfo Tryd.prog 84 = some (1, 8) := by kernel_rfl
@[simp] theorem ze84 : zeroA Tryd.prog 84 = some [.p (.c (.map none))] := by kernel_rfl
@[simp] theorem zo84 : zero1 Tryd.prog 84 = some (.p (.c (.map none))) := by kernel_rfl
@[simp] theorem pk91 : pairK Tryd.prog 91 = true := by kernel_rfl
@[simp] theorem sz91 : szOf Tryd.prog 91 = some 2 := by kernel_rfl
@[simp] theorem ag91 : aggB Tryd.prog 91 = some true := by kernel_rfl
@[simp] theorem ei91 : eInfo Tryd.prog 91 = some (2, 16) := by kernel_rfl
@[simp] theorem ze91 : zeroA Tryd.prog 91 = some [.p (.c (.int .i64 0)), .p (.c (.int .i64 0))] := by kernel_rfl
@[simp] theorem sz97 : szOf Tryd.prog 97 = some 1 := by kernel_rfl
@[simp] theorem ag97 : aggB Tryd.prog 97 = some false := by kernel_rfl
@[simp] theorem ei97 : eInfo Tryd.prog 97 = some (1, 24) := by kernel_rfl
@[simp] theorem ze97 : zeroA Tryd.prog 97 = some [.z] := by kernel_rfl
@[simp] theorem zo97 : zero1 Tryd.prog 97 = some (.z) := by kernel_rfl
@[simp] theorem sz99 : szOf Tryd.prog 99 = some 10 := by kernel_rfl
@[simp] theorem ag99 : aggB Tryd.prog 99 = some true := by kernel_rfl
@[simp] theorem ei99 : eInfo Tryd.prog 99 = some (10, 80) := by kernel_rfl
@[simp] theorem ze99 : zeroA Tryd.prog 99 = some [.p (.c (.int .i64 0)), .p (.c (.int .i64 0)), .p (.c (.int .i64 0)), .p (.c (.int .i64 0)), .p (.c (.int .i64 0)), .p (.c (.int .i64 0)), .p (.c (.int .i64 0)), .p (.c (.int .i64 0)), .p (.c (.int .i64 0)), .p (.c (.int .i64 0))] := by kernel_rfl
@[simp] theorem eqo99 : eqOk Tryd.prog 99 = true := by kernel_rfl
@[simp] theorem sz100 : szOf Tryd.prog 100 = some 10 := by kernel_rfl
@[simp] theorem ag100 : aggB Tryd.prog 100 = some true := by kernel_rfl
@[simp] theorem ei100 : eInfo Tryd.prog 100 = some (10, 80) := by kernel_rfl
@[simp] theorem ze100 : zeroA Tryd.prog 100 = some [.p (.c (.int .i64 0)), .p (.c (.int .i64 0)), .p (.c (.int .i64 0)), .p (.c (.int .i64 0)), .p (.c (.int .i64 0)), .p (.c (.int .i64 0)), .p (.c (.int .i64 0)), .p (.c (.int .i64 0)), .p (.c (.int .i64 0)), .p (.c (.int .i64 0))] := by kernel_rfl
@[simp] theorem eqo100 : eqOk Tryd.prog 100 = true := by kernel_rfl
@[simp] theorem sz104 : szOf Tryd.prog 104 = some 2 := by kernel_rfl
@[simp] theorem ag104 : aggB Tryd.prog 104 = some true := by kernel_rfl
@[simp] theorem ei104 : eInfo Tryd.prog 104 = some (2, 24) := by kernel_rfl
@[simp] theorem ze104 : zeroA Tryd.prog 104 = some [.p (.c (.string ⟨#[]⟩)), .p (.c (.int .i64 0))] := by kernel_rfl
@[simp] theorem eqo104 : eqOk Tryd.prog 104 = true := by kernel_rfl
@[simp] theorem sz105 : szOf Tryd.prog 105 = some 2 := by kernel_rfl
@[simp] theorem ag105 : aggB Tryd.prog 105 = some true := by kernel_rfl
@[simp] theorem ei105 : eInfo Tryd.prog 105 = some (2, 24) := by kernel_rfl
@[simp] theorem ze105 : zeroA Tryd.prog 105 = some [.p (.c (.string ⟨#[]⟩)), .p (.c (.int .i64 0))] := by kernel_rfl
@[simp] theorem eqo105 : eqOk Tryd.prog 105 = true := by kernel_rfl
@[simp] theorem sz107 : szOf Tryd.prog 107 = some 2 := by kernel_rfl
@[simp] theorem ag107 : aggB Tryd.prog 107 = some true := by kernel_rfl
@[simp] theorem ei107 : eInfo Tryd.prog 107 = some (2, 16) := by kernel_rfl
@[simp] theorem ze107 : zeroA Tryd.prog 107 = some [.p (.c (.int .i64 0)), .p (.c (.int .i64 0))] := by kernel_rfl
@[simp] theorem eqo107 : eqOk Tryd.prog 107 = true := by kernel_rfl
@[simp] theorem sz108 : szOf Tryd.prog 108 = some 2 := by kernel_rfl
@[simp] theorem ag108 : aggB Tryd.prog 108 = some true := by kernel_rfl
@[simp] theorem ei108 : eInfo Tryd.prog 108 = some (2, 16) := by kernel_rfl
@[simp] theorem ze108 : zeroA Tryd.prog 108 = some [.p (.c (.int .i64 0)), .p (.c (.int .i64 0))] := by kernel_rfl
@[simp] theorem eqo108 : eqOk Tryd.prog 108 = true := by kernel_rfl
@[simp] theorem sz117 : szOf Tryd.prog 117 = some 1 := by kernel_rfl
@[simp] theorem ag117 : aggB Tryd.prog 117 = some false := by kernel_rfl
@[simp] theorem ei117 : eInfo Tryd.prog 117 = some (1, 8) := by kernel_rfl
@[simp] theorem ze117 : zeroA Tryd.prog 117 = some [.p (.c (.map none))] := by kernel_rfl
@[simp] theorem zo117 : zero1 Tryd.prog 117 = some (.p (.c (.map none))) := by kernel_rfl
@[simp] theorem sz118 : szOf Tryd.prog 118 = some 1 := by kernel_rfl
@[simp] theorem ag118 : aggB Tryd.prog 118 = some false := by kernel_rfl
@[simp] theorem ei118 : eInfo Tryd.prog 118 = some (1, 8) := by kernel_rfl
@[simp] theorem ze118 : zeroA Tryd.prog 118 = some [.p (.c (.map none))] := by kernel_rfl
@[simp] theorem zo118 : zero1 Tryd.prog 118 = some (.p (.c (.map none))) := by kernel_rfl
@[simp] theorem sz122 : szOf Tryd.prog 122 = some 2 := by kernel_rfl
@[simp] theorem ag122 : aggB Tryd.prog 122 = some true := by kernel_rfl
@[simp] theorem ei122 : eInfo Tryd.prog 122 = some (2, 16) := by kernel_rfl
@[simp] theorem ze122 : zeroA Tryd.prog 122 = some [.p (.c (.int .i64 0)), .p (.c (.int .i64 0))] := by kernel_rfl
@[simp] theorem eqo122 : eqOk Tryd.prog 122 = true := by kernel_rfl
@[simp] theorem sz123 : szOf Tryd.prog 123 = some 2 := by kernel_rfl
@[simp] theorem ag123 : aggB Tryd.prog 123 = some true := by kernel_rfl
@[simp] theorem ei123 : eInfo Tryd.prog 123 = some (2, 16) := by kernel_rfl
@[simp] theorem ze123 : zeroA Tryd.prog 123 = some [.p (.c (.int .i64 0)), .p (.c (.int .i64 0))] := by kernel_rfl
@[simp] theorem eqo123 : eqOk Tryd.prog 123 = true := by kernel_rfl
@[simp] theorem sz139 : szOf Tryd.prog 139 = some 4 := by kernel_rfl
@[simp] theorem ag139 : aggB Tryd.prog 139 = some true := by kernel_rfl
@[simp] theorem ei139 : eInfo Tryd.prog 139 = some (4, 32) := by kernel_rfl
@[simp] theorem ze139 : zeroA Tryd.prog 139 = some [.p (.c (.int .i64 0)), .p (.c (.int .i64 0)), .p (.c (.int .i64 0)), .p (.c (.int .i64 0))] := by kernel_rfl
@[simp] theorem sz142 : szOf Tryd.prog 142 = some 7 := by kernel_rfl
@[simp] theorem ag142 : aggB Tryd.prog 142 = some true := by kernel_rfl
@[simp] theorem ei142 : eInfo Tryd.prog 142 = some (7, 7) := by kernel_rfl
@[simp] theorem ze142 : zeroA Tryd.prog 142 = some [.p (.c (.bool false)), .p (.c (.bool false)), .p (.c (.bool false)), .p (.c (.bool false)), .p (.c (.bool false)), .p (.c (.bool false)), .p (.c (.bool false))] := by kernel_rfl
@[simp] theorem sz143 : szOf Tryd.prog 143 = some 8 := by kernel_rfl
@[simp] theorem ag143 : aggB Tryd.prog 143 = some true := by kernel_rfl
@[simp] theorem ei143 : eInfo Tryd.prog 143 = some (8, 24) := by kernel_rfl
@[simp] theorem ze143 : zeroA Tryd.prog 143 = some [.p (.c (.string ⟨#[]⟩)), .p (.c (.bool false)), .p (.c (.bool false)), .p (.c (.bool false)), .p (.c (.bool false)), .p (.c (.bool false)), .p (.c (.bool false)), .p (.c (.bool false))] := by kernel_rfl
@[simp] theorem eqo143 : eqOk Tryd.prog 143 = true := by kernel_rfl
@[simp] theorem sz144 : szOf Tryd.prog 144 = some 8 := by kernel_rfl
@[simp] theorem ag144 : aggB Tryd.prog 144 = some true := by kernel_rfl
@[simp] theorem ei144 : eInfo Tryd.prog 144 = some (8, 24) := by kernel_rfl
@[simp] theorem ze144 : zeroA Tryd.prog 144 = some [.p (.c (.string ⟨#[]⟩)), .p (.c (.bool false)), .p (.c (.bool false)), .p (.c (.bool false)), .p (.c (.bool false)), .p (.c (.bool false)), .p (.c (.bool false)), .p (.c (.bool false))] := by kernel_rfl
@[simp] theorem eqo144 : eqOk Tryd.prog 144 = true := by kernel_rfl
@[simp] theorem sz145 : szOf Tryd.prog 145 = some 176 := by kernel_rfl
@[simp] theorem ag145 : aggB Tryd.prog 145 = some true := by kernel_rfl
@[simp] theorem ei145 : eInfo Tryd.prog 145 = some (176, 528) := by kernel_rfl
@[simp] theorem sz146 : szOf Tryd.prog 146 = some 7 := by kernel_rfl
@[simp] theorem ag146 : aggB Tryd.prog 146 = some true := by kernel_rfl
@[simp] theorem ei146 : eInfo Tryd.prog 146 = some (7, 56) := by kernel_rfl
@[simp] theorem ze146 : zeroA Tryd.prog 146 = some [.p (.c (.int .i64 0)), .p (.c (.int .i64 0)), .p (.c (.int .i64 0)), .p (.c (.int .i64 0)), .p (.c (.int .i64 0)), .p (.c (.int .i64 0)), .p (.c (.int .i64 0))] := by kernel_rfl
@[simp] theorem sz148 : szOf Tryd.prog 148 = some 3 := by kernel_rfl
@[simp] theorem ag148 : aggB Tryd.prog 148 = some true := by kernel_rfl
@[simp] theorem ei148 : eInfo Tryd.prog 148 = some (3, 24) := by kernel_rfl
@[simp] theorem ze148 : zeroA Tryd.prog 148 = some [.p (.c (.int .i64 0)), .p (.c (.int .i64 0)), .p (.c (.int .i64 0))] := by kernel_rfl
@[simp] theorem sz152 : szOf Tryd.prog 152 = some 1 := by kernel_rfl
@[simp] theorem ag152 : aggB Tryd.prog 152 = some false := by kernel_rfl
@[simp] theorem ei152 : eInfo Tryd.prog 152 = some (1, 24) := by kernel_rfl
@[simp] theorem ze152 : zeroA Tryd.prog 152 = some [.z] := by kernel_rfl
@[simp] theorem zo152 : zero1 Tryd.prog 152 = some (.z) := by kernel_rfl
@[simp] theorem sz161 : szOf Tryd.prog 161 = some 10 := by kernel_rfl
@[simp] theorem ag161 : aggB Tryd.prog 161 = some true := by kernel_rfl
@[simp] theorem ei161 : eInfo Tryd.prog 161 = some (10, 160) := by kernel_rfl
@[simp] theorem ze161 : zeroA Tryd.prog 161 = some [.p (.c (.string ⟨#[]⟩)), .p (.c (.string ⟨#[]⟩)), .p (.c (.string ⟨#[]⟩)), .p (.c (.string ⟨#[]⟩)), .p (.c (.string ⟨#[]⟩)), .p (.c (.string ⟨#[]⟩)), .p (.c (.string ⟨#[]⟩)), .p (.c (.string ⟨#[]⟩)), .p (.c (.string ⟨#[]⟩)), .p (.c (.string ⟨#[]⟩))] := by kernel_rfl
@[simp] theorem sz175 : szOf Tryd.prog 175 = some 1 := by kernel_rfl
@[simp] theorem ag175 : aggB Tryd.prog 175 = some false := by kernel_rfl
@[simp] theorem ei175 : eInfo Tryd.prog 175 = some (1, 4) := by kernel_rfl
@[simp] theorem ze175 : zeroA Tryd.prog 175 = some [.p (.c (.int .u32 0))] := by kernel_rfl
@[simp] theorem zo175 : zero1 Tryd.prog 175 = some (.p (.c (.int .u32 0))) := by kernel_rfl
attribute [simp] Tryd.underlying2 Tryd.underlying3 Tryd.underlying4 Tryd.underlying5 Tryd.underlying9 Tryd.underlying21 Tryd.underlying22 Tryd.underlying23 Tryd.underlying24 Tryd.underlying26 Tryd.underlying27 Tryd.underlying34 Tryd.underlying38 Tryd.underlying42 Tryd.underlying43 Tryd.underlying44 Tryd.underlying48 Tryd.underlying49 Tryd.underlying50 Tryd.underlying51 Tryd.underlying52 Tryd.underlying53 Tryd.underlying55 Tryd.underlying63 Tryd.underlying65 Tryd.underlying66 Tryd.underlying67 Tryd.underlying68 Tryd.underlying69 Tryd.underlying70 Tryd.underlying71 Tryd.underlying82 Tryd.underlying84 Tryd.underlying91 Tryd.underlying97 Tryd.underlying99 Tryd.underlying100 Tryd.underlying104 Tryd.underlying105 Tryd.underlying107 Tryd.underlying108 Tryd.underlying117 Tryd.underlying118 Tryd.underlying122 Tryd.underlying123 Tryd.underlying139 Tryd.underlying142 Tryd.underlying143 Tryd.underlying144 Tryd.underlying145 Tryd.underlying146 Tryd.underlying148 Tryd.underlying152 Tryd.underlying161 Tryd.underlying175
end Go.Proofs
end
section
set_option linter.all false
namespace Go.Dr
open Go.Fw

def str (l : List UInt8) : ByteArray := ⟨l.toArray⟩
/-- An instruction. -/
structure I8 where
  op : Int
  a : Int
  b : Int
  c : Int
  obj : Int
  n : Int
  fn : Int
  ord : Int
  deriving DecidableEq, Inhabited
abbrev iC (n : Int) : CV := .c (.int .i64 n)
abbrev bC (b : Bool) : CV := .c (.bool b)
abbrev sC (s : ByteArray) : CV := .c (.string s)
def I8.cvs (i : I8) : List CV := [iC i.op, iC i.a, iC i.b, iC i.c, iC i.obj, iC i.n, iC i.fn, iC i.ord]
abbrev I8.av (i : I8) : AV := .agg [.p (iC i.op), .p (iC i.a), .p (iC i.b), .p (iC i.c), .p (iC i.obj), .p (iC i.n), .p (iC i.fn), .p (iC i.ord)]
def I8.vals (i : I8) : List Int := [i.a, i.b, i.c, i.obj, i.n, i.fn, i.ord]
def codeC (l : List I8) : List CV := l.flatMap I8.cvs

/-! Cells of rows of equal length. -/
theorem blk_length {α β : Type} {f : α → List β} {s : Nat} (hs : ∀ a, (f a).length = s) : ∀ l : List α, (l.flatMap f).length = l.length * s
  | [] => by simp
  | x :: l => by rw [List.flatMap_cons, List.length_append, blk_length hs l, hs, List.length_cons, Nat.succ_mul, Nat.add_comm]
theorem blk_drop {α β : Type} {f : α → List β} {s : Nat} (hs : ∀ a, (f a).length = s) : ∀ (l : List α) (i : Nat), (l.flatMap f).drop (i * s) = (l.drop i).flatMap f
  | [], i => by simp
  | x :: l, 0 => by simp
  | x :: l, i + 1 => by
    rw [List.flatMap_cons, List.drop_succ_cons, ← blk_drop hs l i, Nat.succ_mul, Nat.add_comm, ← hs x, List.drop_append]
    simp
theorem blk_take {α β : Type} {f : α → List β} {s : Nat} (hs : ∀ a, (f a).length = s) : ∀ (l : List α) (i : Nat), (l.flatMap f).take (i * s) = (l.take i).flatMap f
  | [], i => by simp
  | x :: l, 0 => by simp
  | x :: l, i + 1 => by
    rw [List.take_succ_cons, List.flatMap_cons, List.flatMap_cons, ← blk_take hs l i, Nat.succ_mul, Nat.add_comm, ← hs x, List.take_append]
    simp [List.take_of_length_le]
theorem blk_part {α β : Type} {f : α → List β} {s : Nat} (hs : ∀ a, (f a).length = s) (l : List α) {i k m : Nat} (h : i < l.length) (hk : k + m ≤ s) : ((l.flatMap f).drop (i * s + k)).take m = ((f l[i]).drop k).take m := by
  rw [← List.drop_drop, blk_drop hs, List.drop_eq_getElem_cons h, List.flatMap_cons, List.drop_append_of_le_length (by rw [hs]; omega), List.take_append_of_le_length (by rw [List.length_drop, hs]; omega)]
theorem blk_get {α β : Type} {f : α → List β} {s : Nat} (hs : ∀ a, (f a).length = s) (l : List α) {i k : Nat} (h : i < l.length) (hk : k < s) : (l.flatMap f)[i * s + k]? = (f l[i])[k]? := by
  have := congrArg (·[0]?) (blk_part hs l h (show k + 1 ≤ s by omega))
  simpa using this

theorem cvs_length (i : I8) : i.cvs.length = 8 := rfl
@[simp] theorem codeC_length (l : List I8) : (codeC l).length = l.length * 8 := blk_length cvs_length l
theorem codeC_part (l : List I8) {i : Nat} (h : i < l.length) : ((codeC l).drop (i * 8)).take 8 = l[i].cvs := by
  have := blk_part (s := 8) cvs_length l h (show 0 + 8 ≤ 8 by omega)
  have h2 : List.take 8 l[i].cvs = l[i].cvs := rfl
  simpa [h2, codeC] using this
theorem codeC_get (l : List I8) {i : Nat} (k : Nat) (h : i < l.length) (hk : k < 8) : (codeC l)[i * 8 + k]? = l[i].cvs[k]? := blk_get cvs_length l h hk
theorem codeC_partP (l : List I8) {i : Nat} (h : i < l.length) : (((codeC l).map AC.p).drop (i * 8)).take 8 = l[i].cvs.map .p := by
  rw [← List.map_drop, ← List.map_take, codeC_part l h]
theorem codeC_getP (l : List I8) {i : Nat} (k : Nat) (h : i < l.length) (hk : k < 8) : ((codeC l)[i * 8 + k]?).map AC.p = (l[i].cvs[k]?).map .p := by rw [codeC_get l k h hk]
theorem codeC_op (l : List I8) {i : Nat} (h : i < l.length) : (codeC l)[i * 8]? = some (iC l[i].op) := by have := codeC_get l 0 h (by omega); simpa [I8.cvs] using this
theorem codeC_n (l : List I8) {i : Nat} (h : i < l.length) : (codeC l)[i * 8 + 5]? = some (iC l[i].n) := by have := codeC_get l 5 h (by omega); simpa [I8.cvs] using this
@[simp] theorem codeC_at0 (l : List I8) {i : Nat} (h : i * 8 < (codeC l).length) : (codeC l)[i * 8] = iC (l[i]'(by simp at h; omega)).op := by
  have := codeC_op l (i := i) (by simp at h; omega)
  rw [List.getElem?_eq_getElem h] at this
  exact Option.some.inj this
@[simp] theorem codeC_at5 (l : List I8) {i : Nat} (h : i * 8 + 5 < (codeC l).length) : (codeC l)[i * 8 + 5] = iC (l[i]'(by simp at h; omega)).n := by
  have := codeC_n l (i := i) (by simp at h; omega)
  rw [List.getElem?_eq_getElem h] at this
  exact Option.some.inj this
theorem codeC_append (a b : List I8) : codeC (a ++ b) = codeC a ++ codeC b := by simp [codeC]
/-- A function, as a struct. -/
abbrev fAV (name : ByteArray) (l : List I8) : AV := .agg [.p (sC name), .p (.sl l.length (codeC l))]

/-! Tables. -/
def rowsT : List (List UInt8 × List Bool) := [
  ([99, 111, 110, 115, 116], [true, false, false, false, true, false, false]),
  ([99, 111, 112, 121], [true, true, false, false, false, false, false]),
  ([99, 97, 108, 99], [true, true, true, false, false, true, false]),
  ([106, 117, 109, 112], [false, false, false, false, true, false, false]),
  ([98, 114, 97, 110, 99, 104], [false, true, false, false, true, false, false]),
  ([97, 115, 115, 101, 114, 116], [false, true, false, false, false, false, false]),
  ([115, 116, 111, 112], [false, false, false, false, false, false, false]),
  ([108, 111, 97, 100], [true, false, false, true, false, false, true]),
  ([115, 116, 111, 114, 101], [false, true, false, true, false, false, true]),
  ([115, 119, 97, 112], [true, true, false, true, false, false, true]),
  ([102, 101, 116, 99, 104, 97, 100, 100], [true, true, false, true, false, false, true]),
  ([99, 97, 115], [true, true, true, true, false, false, true]),
  ([102, 101, 110, 99, 101], [false, false, false, false, false, false, false]),
  ([97, 119, 97, 105, 116], [true, true, false, true, false, true, true]),
  ([108, 111, 99, 107], [false, false, false, true, false, false, false]),
  ([117, 110, 108, 111, 99, 107], [false, false, false, true, false, false, false]),
  ([116, 114, 121, 108, 111, 99, 107], [true, false, false, true, false, false, false]),
  ([119, 97, 105, 116], [false, false, false, true, true, false, false]),
  ([115, 105, 103, 110, 97, 108], [false, false, false, true, false, false, false]),
  ([98, 114, 111, 97, 100, 99, 97, 115, 116], [false, false, false, true, false, false, false]),
  ([115, 112, 97, 119, 110], [true, true, false, true, false, false, false]),
  ([106, 111, 105, 110], [false, true, false, false, false, false, false])]
def fieldsT : List (List UInt8) := [
  [65, 78],
  [65, 66],
  [70, 65, 66, 67],
  [78],
  [66, 78],
  [66],
  [],
  [65, 79, 82],
  [79, 66, 82],
  [65, 79, 66, 82],
  [65, 79, 66, 82],
  [65, 79, 66, 67, 82],
  [],
  [65, 79, 70, 66, 82],
  [79],
  [79],
  [65, 79],
  [79, 78],
  [79],
  [79],
  [65, 79, 66],
  [66]]
def namesT : List (List UInt8) := [[97, 100, 100], [115, 117, 98], [109, 117, 108], [97, 110, 100], [111, 114], [120, 111, 114], [101, 113], [110, 101], [108, 116], [108, 101]]
def rowC (r : List UInt8 × List Bool) : List CV := sC (str r.1) :: r.2.map bC
def rowsC : List CV := rowsT.flatMap rowC
def namesC : List CV := namesT.map fun l => sC (str l)
instance : Globals where
  G := fun g => if g = 0 then some rowsC else if g = 1 then some namesC else none
@[simp] theorem glob0 : Globals.G 0 = some rowsC := rfl
@[simp] theorem glob1 : Globals.G 1 = some namesC := rfl
@[simp] theorem rowsC_length : rowsC.length = 176 := by rfl
@[simp] theorem namesC_length : namesC.length = 10 := by rfl

/-- The fields that an operation uses, in the order A, B, C, Obj, N, Fn, Order. -/
def uses (op : Int) : List Bool := if 1 ≤ op ∧ op ≤ 22 then (rowsT.getD (op - 1).toNat ([], [])).2 else [false, false, false, false, false, false, false]
theorem rows_part {op : Int} (h1 : 1 ≤ op) (h2 : op ≤ 22) : ((rowsC.map AC.p).drop ((op.toNat - 1) * 8 + 1)).take 7 = (uses op).map fun b => AC.p (bC b) := by
  obtain ⟨n, rfl⟩ : ∃ n : Nat, op = (n : Int) + 1 := ⟨(op - 1).toNat, by omega⟩
  have hn : n < 22 := by omega
  have e : ((n : Int) + 1 - 1).toNat = n := by omega
  have e' : ((n : Int) + 1).toNat - 1 = n := by omega
  unfold uses
  rw [if_pos ⟨h1, h2⟩, e, e']
  have : ∀ n, n < 22 → (((rowsC.map AC.p).drop (n * 8 + 1)).take 7 = ((rowsT.getD n ([], [])).2).map fun b => AC.p (bC b)) := by
    intro n hn
    match n, hn with
    | 0, _ => rfl
    | 1, _ => rfl
    | 2, _ => rfl
    | 3, _ => rfl
    | 4, _ => rfl
    | 5, _ => rfl
    | 6, _ => rfl
    | 7, _ => rfl
    | 8, _ => rfl
    | 9, _ => rfl
    | 10, _ => rfl
    | 11, _ => rfl
    | 12, _ => rfl
    | 13, _ => rfl
    | 14, _ => rfl
    | 15, _ => rfl
    | 16, _ => rfl
    | 17, _ => rfl
    | 18, _ => rfl
    | 19, _ => rfl
    | 20, _ => rfl
    | 21, _ => rfl
    | n + 22, h => omega
  exact this n hn
@[simp] theorem uses_length (op : Int) : (uses op).length = 7 := by
  unfold uses
  split
  · rename_i h
    obtain ⟨n, rfl⟩ : ∃ n : Nat, op = (n : Int) + 1 := ⟨(op - 1).toNat, by omega⟩
    have hn : n < 22 := by omega
    have e : ((n : Int) + 1 - 1).toNat = n := by omega
    rw [e]
    have : ∀ n, n < 22 → ((rowsT.getD n ([], [])).2).length = 7 := by decide
    exact this n hn
  · rfl
def use (op : Int) (k : Nat) : Bool := (uses op).getD k false

/-- The name of a function of values. -/
def nameB (fn : Int) : ByteArray := if 1 ≤ fn ∧ fn ≤ 10 then str (namesT.getD (fn - 1).toNat []) else ⟨#[]⟩
theorem names_get {fn : Int} (h1 : 1 ≤ fn) (h2 : fn ≤ 10) : namesC[fn.toNat - 1]? = some (sC (nameB fn)) := by
  unfold nameB
  rw [if_pos ⟨h1, h2⟩]
  obtain ⟨n, rfl⟩ : ∃ n : Nat, fn = (n : Int) + 1 := ⟨(fn - 1).toNat, by omega⟩
  have hn : n < 10 := by omega
  have e : ((n : Int) + 1 - 1).toNat = n := by omega
  have e' : ((n : Int) + 1).toNat - 1 = n := by omega
  rw [e, e']
  match n, hn with
  | 0, _ => rfl
  | 1, _ => rfl
  | 2, _ => rfl
  | 3, _ => rfl
  | 4, _ => rfl
  | 5, _ => rfl
  | 6, _ => rfl
  | 7, _ => rfl
  | 8, _ => rfl
  | 9, _ => rfl
  | n + 10, h => omega
theorem eqS_data (a b : ByteArray) : eqS a b = (a.data.toList == b.data.toList) := by unfold eqS; rw [ByteArray.toList_eq, ByteArray.toList_eq]
theorem nameB_empty (fn : Int) : eqS (nameB fn) ⟨#[]⟩ = (decide (fn < 1) || decide (10 < fn)) := by
  unfold nameB
  split
  · rename_i h
    obtain ⟨n, rfl⟩ : ∃ n : Nat, fn = (n : Int) + 1 := ⟨(fn - 1).toNat, by omega⟩
    have hn : n < 10 := by omega
    have e : ((n : Int) + 1 - 1).toNat = n := by omega
    have e1 : decide ((n : Int) + 1 < 1) = false := by simp; omega
    have e2 : decide (10 < (n : Int) + 1) = false := by simp; omega
    rw [e, e1, e2, eqS_data]
    match n, hn with
    | 0, _ => rfl
    | 1, _ => rfl
    | 2, _ => rfl
    | 3, _ => rfl
    | 4, _ => rfl
    | 5, _ => rfl
    | 6, _ => rfl
    | 7, _ => rfl
    | 8, _ => rfl
    | 9, _ => rfl
    | n + 10, h => omega
  · rename_i h
    have : (decide (fn < 1) || decide (10 < fn)) = true := by simp; omega
    rw [this, eqS_data]; rfl

def I8.val (i : I8) (k : Nat) : Int := i.vals.getD k 0
theorem vals_get (i : I8) {k : Nat} (h : k < 7) : i.vals[k]? = some (i.val k) := by
  unfold I8.val
  rw [List.getD_eq_getElem?_getD]
  have : k < i.vals.length := h
  rw [List.getElem?_eq_getElem this]; rfl
theorem uses_get (op : Int) {k : Nat} (h : k < 7) : (uses op)[k]? = some (use op k) := by
  unfold use
  rw [List.getD_eq_getElem?_getD, List.getElem?_eq_getElem (by rw [uses_length]; exact h)]; rfl
@[simp] theorem uses_at (op : Int) {k : Nat} (h : k < (uses op).length) : (uses op)[k] = use op k := by
  have := uses_get op (k := k) (by rwa [uses_length] at h)
  rw [List.getElem?_eq_getElem h] at this
  exact Option.some.inj this
theorem setRun_all {α : Type} : ∀ (xs l : List α), l.length = xs.length → setRun xs 0 l = l := by
  intro xs l h
  have := setRun_fill l xs 0 (by omega)
  simp at this
  rw [List.take_of_length_le (by rw [setRun_length]; omega)] at this
  exact this
@[simp] theorem setRun7 {α : Type} (a b c d e f g : α) (l : List α) (h : l.length = 7) : setRun [a, b, c, d, e, f, g] 0 l = l := setRun_all _ _ (by simp [h])

/-- The first error of an instruction on its own. -/
def instE (i : I8) : Int :=
  if i.op < 1 ∨ 22 < i.op then 8
  else if (List.range 7).any (fun k => !use i.op k && i.val k != 0) then 9
  else if (List.range 3).any (fun k => use i.op k && (decide (i.val k < 0) || decide (8 ≤ i.val k))) then 10
  else if use i.op 6 && (decide (i.ord < 0) || decide (2 < i.ord)) then 13
  else if use i.op 5 && (decide (i.fn < 1) || decide (10 < i.fn)) then 8
  else if i.op == 1 && (decide (i.n < -2147483648) || decide (2147483647 < i.n)) then 2
  else 0
/-! The reference's table. -/
theorem str_size (l : List UInt8) : (str l).size = l.length := by simp [str, ByteArray.size]
theorem str_get (l : List UInt8) (k : Nat) : (str l)[k]? = l[k]? := by
  by_cases h : k < l.length
  · have h' : k < (str l).size := by rw [str_size]; exact h
    rw [List.getElem?_eq_getElem h, getElem?_pos (str l) k h']
    rfl
  · have h' : ¬ k < (str l).size := by rw [str_size]; exact h
    rw [List.getElem?_eq_none (by omega), getElem?_neg (str l) k h']
def fieldsC : List CV := fieldsT.map fun l => sC (str l)
def fieldL (op : Int) : List UInt8 := fieldsT.getD (op - 1).toNat []
theorem fields_get {op : Int} (h1 : 1 ≤ op) (h2 : op ≤ 22) : fieldsC[op.toNat - 1]? = some (sC (str (fieldL op))) := by
  unfold fieldL
  obtain ⟨n, rfl⟩ : ∃ n : Nat, op = (n : Int) + 1 := ⟨(op - 1).toNat, by omega⟩
  have hn : n < 22 := by omega
  have e : ((n : Int) + 1 - 1).toNat = n := by omega
  have e' : ((n : Int) + 1).toNat - 1 = n := by omega
  rw [e, e']
  match n, hn with
  | 0, _ => rfl
  | 1, _ => rfl
  | 2, _ => rfl
  | 3, _ => rfl
  | 4, _ => rfl
  | 5, _ => rfl
  | 6, _ => rfl
  | 7, _ => rfl
  | 8, _ => rfl
  | 9, _ => rfl
  | 10, _ => rfl
  | 11, _ => rfl
  | 12, _ => rfl
  | 13, _ => rfl
  | 14, _ => rfl
  | 15, _ => rfl
  | 16, _ => rfl
  | 17, _ => rfl
  | 18, _ => rfl
  | 19, _ => rfl
  | 20, _ => rfl
  | 21, _ => rfl
  | n + 22, h => omega
def hasC (op : Int) (c : UInt8) : Bool := if 1 ≤ op ∧ op ≤ 22 then (fieldL op).contains c else false
theorem hasC_use (op : Int) : hasC op 65 = use op 0 ∧ hasC op 66 = use op 1 ∧ hasC op 67 = use op 2 ∧ hasC op 79 = use op 3 ∧ hasC op 78 = use op 4 ∧ hasC op 70 = use op 5 ∧ hasC op 82 = use op 6 := by
  unfold hasC use uses fieldL
  by_cases h : 1 ≤ op ∧ op ≤ 22
  · simp only [if_pos h]
    obtain ⟨n, rfl⟩ : ∃ n : Nat, op = (n : Int) + 1 := ⟨(op - 1).toNat, by omega⟩
    have hn : n < 22 := by omega
    have e : ((n : Int) + 1 - 1).toNat = n := by omega
    rw [e]
    revert n
    intro n _ hn _
    match n, hn with
    | 0, _ => exact ⟨rfl, rfl, rfl, rfl, rfl, rfl, rfl⟩
    | 1, _ => exact ⟨rfl, rfl, rfl, rfl, rfl, rfl, rfl⟩
    | 2, _ => exact ⟨rfl, rfl, rfl, rfl, rfl, rfl, rfl⟩
    | 3, _ => exact ⟨rfl, rfl, rfl, rfl, rfl, rfl, rfl⟩
    | 4, _ => exact ⟨rfl, rfl, rfl, rfl, rfl, rfl, rfl⟩
    | 5, _ => exact ⟨rfl, rfl, rfl, rfl, rfl, rfl, rfl⟩
    | 6, _ => exact ⟨rfl, rfl, rfl, rfl, rfl, rfl, rfl⟩
    | 7, _ => exact ⟨rfl, rfl, rfl, rfl, rfl, rfl, rfl⟩
    | 8, _ => exact ⟨rfl, rfl, rfl, rfl, rfl, rfl, rfl⟩
    | 9, _ => exact ⟨rfl, rfl, rfl, rfl, rfl, rfl, rfl⟩
    | 10, _ => exact ⟨rfl, rfl, rfl, rfl, rfl, rfl, rfl⟩
    | 11, _ => exact ⟨rfl, rfl, rfl, rfl, rfl, rfl, rfl⟩
    | 12, _ => exact ⟨rfl, rfl, rfl, rfl, rfl, rfl, rfl⟩
    | 13, _ => exact ⟨rfl, rfl, rfl, rfl, rfl, rfl, rfl⟩
    | 14, _ => exact ⟨rfl, rfl, rfl, rfl, rfl, rfl, rfl⟩
    | 15, _ => exact ⟨rfl, rfl, rfl, rfl, rfl, rfl, rfl⟩
    | 16, _ => exact ⟨rfl, rfl, rfl, rfl, rfl, rfl, rfl⟩
    | 17, _ => exact ⟨rfl, rfl, rfl, rfl, rfl, rfl, rfl⟩
    | 18, _ => exact ⟨rfl, rfl, rfl, rfl, rfl, rfl, rfl⟩
    | 19, _ => exact ⟨rfl, rfl, rfl, rfl, rfl, rfl, rfl⟩
    | 20, _ => exact ⟨rfl, rfl, rfl, rfl, rfl, rfl, rfl⟩
    | 21, _ => exact ⟨rfl, rfl, rfl, rfl, rfl, rfl, rfl⟩
    | n + 22, h => omega
  · simp only [if_neg h]; exact ⟨rfl, rfl, rfl, rfl, rfl, rfl, rfl⟩
/-- A jump out of a function with n instructions. -/
def badT (n : Nat) (i : I8) : Bool := (i.op == 4 || i.op == 5) && (decide (i.n < 0) || decide ((n : Int) < i.n))
def codeE (n : Nat) : List I8 → Int
  | [] => 0
  | i :: r => if instE i ≠ 0 then instE i else if badT n i then 12 else codeE n r
theorem codeE_step {n : Nat} {l : List I8} {k : Nat} (hk : k < l.length) (h1 : instE l[k] = 0) (h2 : badT n l[k] = false) : codeE n (l.drop k) = codeE n (l.drop (k + 1)) := by
  rw [List.drop_eq_getElem_cons hk, codeE, if_neg (by simp [h1]), h2]; simp
theorem codeE_inst {n : Nat} {l : List I8} {k : Nat} (hk : k < l.length) (h1 : instE l[k] ≠ 0) : codeE n (l.drop k) = instE l[k] := by
  rw [List.drop_eq_getElem_cons hk, codeE, if_pos h1]
theorem codeE_jump {n : Nat} {l : List I8} {k : Nat} (hk : k < l.length) (h1 : instE l[k] = 0) (h2 : badT n l[k] = true) : codeE n (l.drop k) = 12 := by
  rw [List.drop_eq_getElem_cons hk, codeE, if_neg (by simp [h1]), h2]; simp
/-- The first error of a function. -/
def funcE (l : List I8) : Int := if 64 < l.length then 4 else codeE l.length l
end Go.Dr
end
section
set_option linter.all false
namespace Go.Proofs
open Go.Fw Go.Dr
set_option maxRecDepth 100000

theorem at_known (op : Int) : At Tryd.prog 104 [iV .i64 op] (bV (!ltI op 1 && !ltI 22 op)) := by
  refine at_code mixed Tryd.func104 (by kernel_rfl) rfl (by kernel_rfl) (by kernel_rfl) rfl fun Q hQ => ?_
  repeat (first | simp | with_reducible refine And.intro (by omega) ?_ | with_reducible refine gsel_pure (by with_unfolding_all rfl) _ (fun hg => by (try simp at hg); simp [hg]; rfl) ?_ | with_reducible refine dsel_pure (by with_unfolding_all rfl) _ (fun hg => by (try simp at hg); simp [hg]; rfl) ?_ | with_reducible refine awp_draw (by kernel_rfl) (by decide +kernel) ?_)
  refine hQ _ _ (ret2 (by simp [retAV, resAV]; rfl) (by simp; rfl) ?_)
  rfl
theorem at_values (i : I8) : At Tryd.prog 105 [i.av] (.agg (i.vals.map fun n => .p (iC n))) := by
  refine at_code mixed Tryd.func105 (by kernel_rfl) rfl (by kernel_rfl) (by kernel_rfl) rfl fun Q hQ => ?_
  repeat (first | simp | with_reducible refine And.intro (by omega) ?_ | with_reducible refine gsel_pure (by with_unfolding_all rfl) _ (fun hg => by (try simp at hg); simp [hg]; rfl) ?_ | with_reducible refine dsel_pure (by with_unfolding_all rfl) _ (fun hg => by (try simp at hg); simp [hg]; rfl) ?_ | with_reducible refine awp_draw (by kernel_rfl) (by decide +kernel) ?_)
  refine hQ _ _ (ret2 (by simp [retAV, resAV]; rfl) (by simp; rfl) ?_)
  rfl
theorem at_vName (fn : Int) : At Tryd.prog 106 [iV .i64 fn] (sV (nameB fn)) := by
  refine at_code mixed Tryd.func106 (by kernel_rfl) rfl (by kernel_rfl) (by kernel_rfl) rfl fun Q hQ => ?_
  repeat (first | simp | with_reducible refine And.intro (by omega) ?_ | with_reducible refine gsel_pure (by with_unfolding_all rfl) _ (fun hg => by (try simp at hg); simp [hg]; rfl) ?_ | with_reducible refine dsel_pure (by with_unfolding_all rfl) _ (fun hg => by (try simp at hg); simp [hg]; rfl) ?_ | with_reducible refine awp_draw (by kernel_rfl) (by decide +kernel) ?_)
  (with_reducible refine condK_intro (fun h => ?_) (fun h => ?_)) <;> (try simp only [h])
  · simp [andB, orB, ltI] at h
    repeat (first | simp | with_reducible refine And.intro (by omega) ?_ | with_reducible refine gsel_pure (by with_unfolding_all rfl) _ (fun hg => by (try simp at hg); simp [hg]; rfl) ?_ | with_reducible refine dsel_pure (by with_unfolding_all rfl) _ (fun hg => by (try simp at hg); simp [hg]; rfl) ?_ | with_reducible refine awp_draw (by kernel_rfl) (by decide +kernel) ?_)
    refine hQ _ _ (ret2 (by simp [retAV, resAV]; rfl) (by simp; rfl) ?_)
    simp [nameB]; omega
  · simp [andB, orB, ltI] at h
    have e1 : IntKind.i64.wrap (fn - 1) = fn - 1 := wrap_i64 (by omega) (by omega)
    have e2 := names_get (fn := fn) (by omega) (by omega)
    have e3 : fn - 1 < 10 := by omega
    repeat (first | simp [e1, e2, e3, h] | with_reducible refine And.intro (by omega) ?_ | with_reducible refine gsel_pure (by with_unfolding_all rfl) _ (fun hg => by (try simp at hg); simp [hg, e1, e2, e3, h]; rfl) ?_ | with_reducible refine dsel_pure (by with_unfolding_all rfl) _ (fun hg => by (try simp at hg); simp [hg, e1, e2, e3, h]; rfl) ?_ | with_reducible refine awp_draw (by kernel_rfl) (by decide +kernel) ?_)
    refine hQ _ _ (ret2 (by simp [retAV, resAV]; rfl) (by simp; rfl) ?_)
    simp
theorem at_rName (fn : Int) : At Tryd.prog 109 [iV .i64 fn] (sV (nameB fn)) := by
  refine at_code mixed Tryd.func109 (by kernel_rfl) rfl (by kernel_rfl) (by kernel_rfl) rfl fun Q hQ => ?_
  repeat (first | simp | with_reducible refine And.intro (by omega) ?_ | with_reducible refine gsel_pure (by with_unfolding_all rfl) _ (fun hg => by (try simp at hg); simp [hg]; rfl) ?_ | with_reducible refine dsel_pure (by with_unfolding_all rfl) _ (fun hg => by (try simp at hg); simp [hg]; rfl) ?_ | with_reducible refine awp_draw (by kernel_rfl) (by decide +kernel) ?_)
  (with_reducible refine condK_intro (fun h => ?_) (fun h => ?_)) <;> (try simp only [h])
  · simp [andB, orB, eqI] at h
    subst h
    repeat (first | simp | with_reducible refine And.intro (by omega) ?_ | with_reducible refine gsel_pure (by with_unfolding_all rfl) _ (fun hg => by (try simp at hg); simp [hg]; rfl) ?_ | with_reducible refine dsel_pure (by with_unfolding_all rfl) _ (fun hg => by (try simp at hg); simp [hg]; rfl) ?_ | with_reducible refine awp_draw (by kernel_rfl) (by decide +kernel) ?_)
    refine hQ _ _ (ret2 (by simp [retAV, resAV]; rfl) (by simp; rfl) ?_)
    rfl
  simp [andB, orB, eqI] at h
  have h1 := h
  clear h
  repeat (first | simp | with_reducible refine And.intro (by omega) ?_ | with_reducible refine gsel_pure (by with_unfolding_all rfl) _ (fun hg => by (try simp at hg); simp [hg]; rfl) ?_ | with_reducible refine dsel_pure (by with_unfolding_all rfl) _ (fun hg => by (try simp at hg); simp [hg]; rfl) ?_ | with_reducible refine awp_draw (by kernel_rfl) (by decide +kernel) ?_)
  (with_reducible refine condK_intro (fun h => ?_) (fun h => ?_)) <;> (try simp only [h])
  · simp [andB, orB, eqI] at h
    subst h
    repeat (first | simp | with_reducible refine And.intro (by omega) ?_ | with_reducible refine gsel_pure (by with_unfolding_all rfl) _ (fun hg => by (try simp at hg); simp [hg]; rfl) ?_ | with_reducible refine dsel_pure (by with_unfolding_all rfl) _ (fun hg => by (try simp at hg); simp [hg]; rfl) ?_ | with_reducible refine awp_draw (by kernel_rfl) (by decide +kernel) ?_)
    refine hQ _ _ (ret2 (by simp [retAV, resAV]; rfl) (by simp; rfl) ?_)
    rfl
  simp [andB, orB, eqI] at h
  have h2 := h
  clear h
  repeat (first | simp | with_reducible refine And.intro (by omega) ?_ | with_reducible refine gsel_pure (by with_unfolding_all rfl) _ (fun hg => by (try simp at hg); simp [hg]; rfl) ?_ | with_reducible refine dsel_pure (by with_unfolding_all rfl) _ (fun hg => by (try simp at hg); simp [hg]; rfl) ?_ | with_reducible refine awp_draw (by kernel_rfl) (by decide +kernel) ?_)
  (with_reducible refine condK_intro (fun h => ?_) (fun h => ?_)) <;> (try simp only [h])
  · simp [andB, orB, eqI] at h
    subst h
    repeat (first | simp | with_reducible refine And.intro (by omega) ?_ | with_reducible refine gsel_pure (by with_unfolding_all rfl) _ (fun hg => by (try simp at hg); simp [hg]; rfl) ?_ | with_reducible refine dsel_pure (by with_unfolding_all rfl) _ (fun hg => by (try simp at hg); simp [hg]; rfl) ?_ | with_reducible refine awp_draw (by kernel_rfl) (by decide +kernel) ?_)
    refine hQ _ _ (ret2 (by simp [retAV, resAV]; rfl) (by simp; rfl) ?_)
    rfl
  simp [andB, orB, eqI] at h
  have h3 := h
  clear h
  repeat (first | simp | with_reducible refine And.intro (by omega) ?_ | with_reducible refine gsel_pure (by with_unfolding_all rfl) _ (fun hg => by (try simp at hg); simp [hg]; rfl) ?_ | with_reducible refine dsel_pure (by with_unfolding_all rfl) _ (fun hg => by (try simp at hg); simp [hg]; rfl) ?_ | with_reducible refine awp_draw (by kernel_rfl) (by decide +kernel) ?_)
  (with_reducible refine condK_intro (fun h => ?_) (fun h => ?_)) <;> (try simp only [h])
  · simp [andB, orB, eqI] at h
    subst h
    repeat (first | simp | with_reducible refine And.intro (by omega) ?_ | with_reducible refine gsel_pure (by with_unfolding_all rfl) _ (fun hg => by (try simp at hg); simp [hg]; rfl) ?_ | with_reducible refine dsel_pure (by with_unfolding_all rfl) _ (fun hg => by (try simp at hg); simp [hg]; rfl) ?_ | with_reducible refine awp_draw (by kernel_rfl) (by decide +kernel) ?_)
    refine hQ _ _ (ret2 (by simp [retAV, resAV]; rfl) (by simp; rfl) ?_)
    rfl
  simp [andB, orB, eqI] at h
  have h4 := h
  clear h
  repeat (first | simp | with_reducible refine And.intro (by omega) ?_ | with_reducible refine gsel_pure (by with_unfolding_all rfl) _ (fun hg => by (try simp at hg); simp [hg]; rfl) ?_ | with_reducible refine dsel_pure (by with_unfolding_all rfl) _ (fun hg => by (try simp at hg); simp [hg]; rfl) ?_ | with_reducible refine awp_draw (by kernel_rfl) (by decide +kernel) ?_)
  (with_reducible refine condK_intro (fun h => ?_) (fun h => ?_)) <;> (try simp only [h])
  · simp [andB, orB, eqI] at h
    subst h
    repeat (first | simp | with_reducible refine And.intro (by omega) ?_ | with_reducible refine gsel_pure (by with_unfolding_all rfl) _ (fun hg => by (try simp at hg); simp [hg]; rfl) ?_ | with_reducible refine dsel_pure (by with_unfolding_all rfl) _ (fun hg => by (try simp at hg); simp [hg]; rfl) ?_ | with_reducible refine awp_draw (by kernel_rfl) (by decide +kernel) ?_)
    refine hQ _ _ (ret2 (by simp [retAV, resAV]; rfl) (by simp; rfl) ?_)
    rfl
  simp [andB, orB, eqI] at h
  have h5 := h
  clear h
  repeat (first | simp | with_reducible refine And.intro (by omega) ?_ | with_reducible refine gsel_pure (by with_unfolding_all rfl) _ (fun hg => by (try simp at hg); simp [hg]; rfl) ?_ | with_reducible refine dsel_pure (by with_unfolding_all rfl) _ (fun hg => by (try simp at hg); simp [hg]; rfl) ?_ | with_reducible refine awp_draw (by kernel_rfl) (by decide +kernel) ?_)
  (with_reducible refine condK_intro (fun h => ?_) (fun h => ?_)) <;> (try simp only [h])
  · simp [andB, orB, eqI] at h
    subst h
    repeat (first | simp | with_reducible refine And.intro (by omega) ?_ | with_reducible refine gsel_pure (by with_unfolding_all rfl) _ (fun hg => by (try simp at hg); simp [hg]; rfl) ?_ | with_reducible refine dsel_pure (by with_unfolding_all rfl) _ (fun hg => by (try simp at hg); simp [hg]; rfl) ?_ | with_reducible refine awp_draw (by kernel_rfl) (by decide +kernel) ?_)
    refine hQ _ _ (ret2 (by simp [retAV, resAV]; rfl) (by simp; rfl) ?_)
    rfl
  simp [andB, orB, eqI] at h
  have h6 := h
  clear h
  repeat (first | simp | with_reducible refine And.intro (by omega) ?_ | with_reducible refine gsel_pure (by with_unfolding_all rfl) _ (fun hg => by (try simp at hg); simp [hg]; rfl) ?_ | with_reducible refine dsel_pure (by with_unfolding_all rfl) _ (fun hg => by (try simp at hg); simp [hg]; rfl) ?_ | with_reducible refine awp_draw (by kernel_rfl) (by decide +kernel) ?_)
  (with_reducible refine condK_intro (fun h => ?_) (fun h => ?_)) <;> (try simp only [h])
  · simp [andB, orB, eqI] at h
    subst h
    repeat (first | simp | with_reducible refine And.intro (by omega) ?_ | with_reducible refine gsel_pure (by with_unfolding_all rfl) _ (fun hg => by (try simp at hg); simp [hg]; rfl) ?_ | with_reducible refine dsel_pure (by with_unfolding_all rfl) _ (fun hg => by (try simp at hg); simp [hg]; rfl) ?_ | with_reducible refine awp_draw (by kernel_rfl) (by decide +kernel) ?_)
    refine hQ _ _ (ret2 (by simp [retAV, resAV]; rfl) (by simp; rfl) ?_)
    rfl
  simp [andB, orB, eqI] at h
  have h7 := h
  clear h
  repeat (first | simp | with_reducible refine And.intro (by omega) ?_ | with_reducible refine gsel_pure (by with_unfolding_all rfl) _ (fun hg => by (try simp at hg); simp [hg]; rfl) ?_ | with_reducible refine dsel_pure (by with_unfolding_all rfl) _ (fun hg => by (try simp at hg); simp [hg]; rfl) ?_ | with_reducible refine awp_draw (by kernel_rfl) (by decide +kernel) ?_)
  (with_reducible refine condK_intro (fun h => ?_) (fun h => ?_)) <;> (try simp only [h])
  · simp [andB, orB, eqI] at h
    subst h
    repeat (first | simp | with_reducible refine And.intro (by omega) ?_ | with_reducible refine gsel_pure (by with_unfolding_all rfl) _ (fun hg => by (try simp at hg); simp [hg]; rfl) ?_ | with_reducible refine dsel_pure (by with_unfolding_all rfl) _ (fun hg => by (try simp at hg); simp [hg]; rfl) ?_ | with_reducible refine awp_draw (by kernel_rfl) (by decide +kernel) ?_)
    refine hQ _ _ (ret2 (by simp [retAV, resAV]; rfl) (by simp; rfl) ?_)
    rfl
  simp [andB, orB, eqI] at h
  have h8 := h
  clear h
  repeat (first | simp | with_reducible refine And.intro (by omega) ?_ | with_reducible refine gsel_pure (by with_unfolding_all rfl) _ (fun hg => by (try simp at hg); simp [hg]; rfl) ?_ | with_reducible refine dsel_pure (by with_unfolding_all rfl) _ (fun hg => by (try simp at hg); simp [hg]; rfl) ?_ | with_reducible refine awp_draw (by kernel_rfl) (by decide +kernel) ?_)
  (with_reducible refine condK_intro (fun h => ?_) (fun h => ?_)) <;> (try simp only [h])
  · simp [andB, orB, eqI] at h
    subst h
    repeat (first | simp | with_reducible refine And.intro (by omega) ?_ | with_reducible refine gsel_pure (by with_unfolding_all rfl) _ (fun hg => by (try simp at hg); simp [hg]; rfl) ?_ | with_reducible refine dsel_pure (by with_unfolding_all rfl) _ (fun hg => by (try simp at hg); simp [hg]; rfl) ?_ | with_reducible refine awp_draw (by kernel_rfl) (by decide +kernel) ?_)
    refine hQ _ _ (ret2 (by simp [retAV, resAV]; rfl) (by simp; rfl) ?_)
    rfl
  simp [andB, orB, eqI] at h
  have h9 := h
  clear h
  repeat (first | simp | with_reducible refine And.intro (by omega) ?_ | with_reducible refine gsel_pure (by with_unfolding_all rfl) _ (fun hg => by (try simp at hg); simp [hg]; rfl) ?_ | with_reducible refine dsel_pure (by with_unfolding_all rfl) _ (fun hg => by (try simp at hg); simp [hg]; rfl) ?_ | with_reducible refine awp_draw (by kernel_rfl) (by decide +kernel) ?_)
  (with_reducible refine condK_intro (fun h => ?_) (fun h => ?_)) <;> (try simp only [h])
  · simp [andB, orB, eqI] at h
    subst h
    repeat (first | simp | with_reducible refine And.intro (by omega) ?_ | with_reducible refine gsel_pure (by with_unfolding_all rfl) _ (fun hg => by (try simp at hg); simp [hg]; rfl) ?_ | with_reducible refine dsel_pure (by with_unfolding_all rfl) _ (fun hg => by (try simp at hg); simp [hg]; rfl) ?_ | with_reducible refine awp_draw (by kernel_rfl) (by decide +kernel) ?_)
    refine hQ _ _ (ret2 (by simp [retAV, resAV]; rfl) (by simp; rfl) ?_)
    rfl
  simp [andB, orB, eqI] at h
  have h10 := h
  clear h
  repeat (first | simp | with_reducible refine And.intro (by omega) ?_ | with_reducible refine gsel_pure (by with_unfolding_all rfl) _ (fun hg => by (try simp at hg); simp [hg]; rfl) ?_ | with_reducible refine dsel_pure (by with_unfolding_all rfl) _ (fun hg => by (try simp at hg); simp [hg]; rfl) ?_ | with_reducible refine awp_draw (by kernel_rfl) (by decide +kernel) ?_)
  refine hQ _ _ (ret2 (by simp [retAV, resAV]; rfl) (by simp; rfl) ?_)
  simp [nameB]; omega
theorem at_register (n : Int) : At Tryd.prog 108 [iV .i64 n] (bV (andB (!ltI n 0) (ltI n 8))) := by
  refine at_code mixed Tryd.func108 (by kernel_rfl) rfl (by kernel_rfl) (by kernel_rfl) rfl fun Q hQ => ?_
  repeat (first | simp | with_reducible refine And.intro (by omega) ?_ | with_reducible refine gsel_pure (by with_unfolding_all rfl) _ (fun hg => by (try simp at hg); simp [hg]; rfl) ?_ | with_reducible refine dsel_pure (by with_unfolding_all rfl) _ (fun hg => by (try simp at hg); simp [hg]; rfl) ?_ | with_reducible refine awp_draw (by kernel_rfl) (by decide +kernel) ?_)
  refine hQ _ _ (ret2 (by simp [retAV, resAV]; rfl) (by simp; rfl) ?_)
  rfl
theorem at_instCheck (i : I8) : At Tryd.prog 72 [i.av] (iV .i64 (instE i)) := by
  refine at_code mixed Tryd.func72 (by kernel_rfl) rfl (by kernel_rfl) (by kernel_rfl) rfl fun Q hQ => ?_
  repeat (first | simp | with_reducible refine And.intro (by omega) ?_ | with_reducible refine gsel_pure (by with_unfolding_all rfl) _ (fun hg => by (try simp at hg); simp [hg]; rfl) ?_ | with_reducible refine dsel_pure (by with_unfolding_all rfl) _ (fun hg => by (try simp at hg); simp [hg]; rfl) ?_ | with_reducible refine awp_draw (by kernel_rfl) (by decide +kernel) ?_)
  refine gop_call (at_known i.op) (by simp) (by simp) (by simp) ?_
  repeat (first | simp | with_reducible refine And.intro (by omega) ?_ | with_reducible refine gsel_pure (by with_unfolding_all rfl) _ (fun hg => by (try simp at hg); simp [hg]; rfl) ?_ | with_reducible refine dsel_pure (by with_unfolding_all rfl) _ (fun hg => by (try simp at hg); simp [hg]; rfl) ?_ | with_reducible refine awp_draw (by kernel_rfl) (by decide +kernel) ?_)
  (with_reducible refine condK_intro (fun h => ?_) (fun h => ?_)) <;> (try simp only [h])
  · simp [andB, orB, ltI] at h
    repeat (first | simp | with_reducible refine And.intro (by omega) ?_ | with_reducible refine gsel_pure (by with_unfolding_all rfl) _ (fun hg => by (try simp at hg); simp [hg]; rfl) ?_ | with_reducible refine dsel_pure (by with_unfolding_all rfl) _ (fun hg => by (try simp at hg); simp [hg]; rfl) ?_ | with_reducible refine awp_draw (by kernel_rfl) (by decide +kernel) ?_)
    refine hQ _ _ (ret2 (by simp [retAV, resAV]; rfl) (by simp; rfl) ?_)
    simp only [instE]; rw [if_pos (by omega)]
  · simp [andB, orB, ltI] at h
    have e1 : IntKind.i64.wrap (i.op - 1) = i.op - 1 := wrap_i64 (by omega) (by omega)
    have e2 := rows_part (op := i.op) (by omega) (by omega)
    have e3 : i.op - 1 < 22 := by omega
    have e4 : (i.op.toNat - 1) * 8 + 1 + 7 ≤ 176 := by omega
    repeat (first | simp [e1, e2, e3, e4, h] | with_reducible refine And.intro (by omega) ?_ | with_reducible refine gsel_pure (by with_unfolding_all rfl) _ (fun hg => by (try simp at hg); simp [hg, e1, e2, e3, e4, h]; rfl) ?_ | with_reducible refine dsel_pure (by with_unfolding_all rfl) _ (fun hg => by (try simp at hg); simp [hg, e1, e2, e3, e4, h]; rfl) ?_ | with_reducible refine awp_draw (by kernel_rfl) (by decide +kernel) ?_)
    refine gop_call (at_values i) (by simp) (by simp) (by simp) ?_
    repeat (first | simp | with_reducible refine And.intro (by omega) ?_ | with_reducible refine gsel_pure (by with_unfolding_all rfl) _ (fun hg => by (try simp at hg); simp [hg]; rfl) ?_ | with_reducible refine dsel_pure (by with_unfolding_all rfl) _ (fun hg => by (try simp at hg); simp [hg]; rfl) ?_ | with_reducible refine awp_draw (by kernel_rfl) (by decide +kernel) ?_)
    refine awp_loop (fun s => ∃ k : Nat, k ≤ 7 ∧ (∀ j, j < k → (!use i.op j && i.val j != 0) = false) ∧ s.env 20 = iV .i64 k ∧ s.env 19 = .agg (i.vals.map fun n => .p (iC n)) ∧ s.env 3 = .cell (.ptr 196992 0) ∧ s.env 1 = .cell (.ptr 0 0) ∧
      s.box 0 = some (i.cvs.map .p) ∧ s.box 196992 = some ((uses i.op).map fun b => .p (bC b))) (fun s => 7 - (s.num 20).toNat) _ (Weak.refl _) ⟨0, by omega, by simp, by simp, by simp, by simp, by simp, by simp [I8.cvs], by simp⟩ fun s hs L hL => ?_
    obtain ⟨k, hk, hall, h20, h19, h3, h1, hb0, hb1⟩ := hs
    repeat (first | simp [h20, h19, h3, h1, hb0, hb1] | with_reducible refine And.intro (by omega) ?_ | with_reducible refine gsel_pure (by with_unfolding_all rfl) _ (fun hg => by (try simp at hg); simp [hg, h20, h19, h3, h1, hb0, hb1]; rfl) ?_ | with_reducible refine dsel_pure (by with_unfolding_all rfl) _ (fun hg => by (try simp at hg); simp [hg, h20, h19, h3, h1, hb0, hb1]; rfl) ?_ | with_reducible refine awp_draw (by kernel_rfl) (by decide +kernel) ?_)
    have hop : ¬ (i.op < 1 ∨ 22 < i.op) := by omega
    (with_reducible refine condK_intro (fun h => ?_) (fun h => ?_)) <;> (try simp only [h])
    · simp [andB, orB, ltI] at h
      have hlt : k < 7 := by omega
      have hlt' : (k : Int) < 7 := by omega
      have ew : IntKind.i64.wrap ((k : Int) + 1) = ((k + 1 : Nat) : Int) := by rw [wrap_i64 (by omega) (by omega)]; simp
      have ev := vals_get i hlt
      repeat (first | simp [h20, h19, h3, h1, hb0, hb1, hlt, hlt', ew, ev] | with_reducible refine And.intro (by omega) ?_ | with_reducible refine gsel_pure (by with_unfolding_all rfl) _ (fun hg => by (try simp at hg); simp [hg, h20, h19, h3, h1, hb0, hb1, hlt, hlt', ew, ev]; rfl) ?_ | with_reducible refine dsel_pure (by with_unfolding_all rfl) _ (fun hg => by (try simp at hg); simp [hg, h20, h19, h3, h1, hb0, hb1, hlt, hlt', ew, ev]; rfl) ?_ | with_reducible refine awp_draw (by kernel_rfl) (by decide +kernel) ?_)
      (with_reducible refine condK_intro (fun h => ?_) (fun h => ?_)) <;> (try simp only [h])
      · simp [andB, orB, eqI] at h
        repeat (first | simp [h20, h19, h3, h1, hb0, hb1, hlt] | with_reducible refine And.intro (by omega) ?_ | with_reducible refine gsel_pure (by with_unfolding_all rfl) _ (fun hg => by (try simp at hg); simp [hg, h20, h19, h3, h1, hb0, hb1, hlt]; rfl) ?_ | with_reducible refine dsel_pure (by with_unfolding_all rfl) _ (fun hg => by (try simp at hg); simp [hg, h20, h19, h3, h1, hb0, hb1, hlt]; rfl) ?_ | with_reducible refine awp_draw (by kernel_rfl) (by decide +kernel) ?_)
        refine hQ _ _ (ret2 (by simp [retAV, resAV]; rfl) (by simp; rfl) ?_)
        have : (List.range 7).any (fun k => !use i.op k && i.val k != 0) = true := List.any_eq_true.2 ⟨k, by simpa using hlt, by simpa using h⟩
        simp only [instE]; rw [if_neg hop, if_pos this]
      · simp [andB, orB, eqI] at h
        repeat (first | simp [h20, h19, h3, h1, hb0, hb1, hlt, ew] | with_reducible refine And.intro (by omega) ?_ | with_reducible refine gsel_pure (by with_unfolding_all rfl) _ (fun hg => by (try simp at hg); simp [hg, h20, h19, h3, h1, hb0, hb1, hlt, ew]; rfl) ?_ | with_reducible refine dsel_pure (by with_unfolding_all rfl) _ (fun hg => by (try simp at hg); simp [hg, h20, h19, h3, h1, hb0, hb1, hlt, ew]; rfl) ?_ | with_reducible refine awp_draw (by kernel_rfl) (by decide +kernel) ?_)
        refine hL _ ⟨⟨k + 1, by omega, fun j hj => ?_, by simp, by simp [h19], by simp [h3], by simp [h1], by simp [hb0], by simp [hb1]⟩, ?_⟩
        · by_cases hjk : j = k
          · subst hjk
            cases hu : use i.op j <;> simp_all
          · exact hall j (by omega)
        · simp [St.num, h20]; omega
    · simp [andB, orB, ltI] at h
      have hk7 : k = 7 := by omega
      subst hk7
      have hA : (List.range 7).any (fun k => !use i.op k && i.val k != 0) = false := by
        rw [List.any_eq_false]
        intro j hj
        rw [hall j (by simpa using hj)]; simp
      repeat (first | simp [h20, h19, h3, h1, hb0, hb1, I8.cvs] | with_reducible refine And.intro (by omega) ?_ | with_reducible refine gsel_pure (by with_unfolding_all rfl) _ (fun hg => by (try simp at hg); simp [hg, h20, h19, h3, h1, hb0, hb1, I8.cvs]; rfl) ?_ | with_reducible refine dsel_pure (by with_unfolding_all rfl) _ (fun hg => by (try simp at hg); simp [hg, h20, h19, h3, h1, hb0, hb1, I8.cvs]; rfl) ?_ | with_reducible refine awp_draw (by kernel_rfl) (by decide +kernel) ?_)
      refine awp_loop (fun s => ∃ k : Nat, k ≤ 3 ∧ (∀ j, j < k → (use i.op j && (decide (i.val j < 0) || decide (8 ≤ i.val j))) = false) ∧ s.env 40 = iV .i64 k ∧ s.env 39 = .agg ((i.vals.take 3).map fun n => .p (iC n)) ∧ s.env 3 = .cell (.ptr 196992 0) ∧ s.env 1 = .cell (.ptr 0 0) ∧
        s.box 0 = some (i.cvs.map .p) ∧ s.box 196992 = some ((uses i.op).map fun b => .p (bC b))) (fun s => 3 - (s.num 40).toNat) _ (Weak.refl _) ⟨0, by omega, by simp, by simp, by simp [I8.vals], by simp [h3], by simp [h1], by simp [hb0, I8.cvs], by simp [hb1]⟩ fun s hs L hL => ?_
      obtain ⟨k, hk, hall, h40, h39, h3, h1, hb0, hb1⟩ := hs
      repeat (first | simp [h40, h39, h3, h1, hb0, hb1] | with_reducible refine And.intro (by omega) ?_ | with_reducible refine gsel_pure (by with_unfolding_all rfl) _ (fun hg => by (try simp at hg); simp [hg, h40, h39, h3, h1, hb0, hb1]; rfl) ?_ | with_reducible refine dsel_pure (by with_unfolding_all rfl) _ (fun hg => by (try simp at hg); simp [hg, h40, h39, h3, h1, hb0, hb1]; rfl) ?_ | with_reducible refine awp_draw (by kernel_rfl) (by decide +kernel) ?_)
      (with_reducible refine condK_intro (fun h => ?_) (fun h => ?_)) <;> (try simp only [h])
      · simp [andB, orB, ltI] at h
        have hlt : k < 3 := by omega
        have hlt2 : k < 7 := by omega
        have hlt' : (k : Int) < 3 := by omega
        have hlt2' : (k : Int) < 7 := by omega
        have ew : IntKind.i64.wrap ((k : Int) + 1) = ((k + 1 : Nat) : Int) := by rw [wrap_i64 (by omega) (by omega)]; simp
        have ev := vals_get i hlt2
        repeat (first | simp [h40, h39, h3, h1, hb0, hb1, hlt, hlt', hlt2, hlt2', ew, ev] | with_reducible refine And.intro (by omega) ?_ | with_reducible refine gsel_pure (by with_unfolding_all rfl) _ (fun hg => by (try simp at hg); simp [hg, h40, h39, h3, h1, hb0, hb1, hlt, hlt', hlt2, hlt2', ew, ev]; rfl) ?_ | with_reducible refine dsel_pure (by with_unfolding_all rfl) _ (fun hg => by (try simp at hg); simp [hg, h40, h39, h3, h1, hb0, hb1, hlt, hlt', hlt2, hlt2', ew, ev]; rfl) ?_ | with_reducible refine awp_draw (by kernel_rfl) (by decide +kernel) ?_)
        (with_reducible refine condK_intro (fun h => ?_) (fun h => ?_)) <;> (try simp only [h])
        · simp [andB, orB, ltI] at h
          repeat (first | simp [h40, h39, h3, h1, hb0, hb1, hlt] | with_reducible refine And.intro (by omega) ?_ | with_reducible refine gsel_pure (by with_unfolding_all rfl) _ (fun hg => by (try simp at hg); simp [hg, h40, h39, h3, h1, hb0, hb1, hlt]; rfl) ?_ | with_reducible refine dsel_pure (by with_unfolding_all rfl) _ (fun hg => by (try simp at hg); simp [hg, h40, h39, h3, h1, hb0, hb1, hlt]; rfl) ?_ | with_reducible refine awp_draw (by kernel_rfl) (by decide +kernel) ?_)
          refine hQ _ _ (ret2 (by simp [retAV, resAV]; rfl) (by simp; rfl) ?_)
          have : (List.range 3).any (fun k => use i.op k && (decide (i.val k < 0) || decide (8 ≤ i.val k))) = true := List.any_eq_true.2 ⟨k, by simpa using hlt, by simpa using h⟩
          simp only [instE]; rw [if_neg hop, if_neg (by rw [hA]; simp), if_pos this]
        · simp [andB, orB, ltI] at h
          repeat (first | simp [h40, h39, h3, h1, hb0, hb1, hlt, ew] | with_reducible refine And.intro (by omega) ?_ | with_reducible refine gsel_pure (by with_unfolding_all rfl) _ (fun hg => by (try simp at hg); simp [hg, h40, h39, h3, h1, hb0, hb1, hlt, ew]; rfl) ?_ | with_reducible refine dsel_pure (by with_unfolding_all rfl) _ (fun hg => by (try simp at hg); simp [hg, h40, h39, h3, h1, hb0, hb1, hlt, ew]; rfl) ?_ | with_reducible refine awp_draw (by kernel_rfl) (by decide +kernel) ?_)
          refine hL _ ⟨⟨k + 1, by omega, fun j hj => ?_, by simp, by simp [h39], by simp [h3], by simp [h1], by simp [hb0], by simp [hb1]⟩, ?_⟩
          · by_cases hjk : j = k
            · subst hjk
              cases hu : use i.op j <;> simp_all
            · exact hall j (by omega)
          · simp [St.num, h40]; omega
      · simp [andB, orB, ltI] at h
        have hk7 : k = 3 := by omega
        subst hk7
        have hB : (List.range 3).any (fun k => use i.op k && (decide (i.val k < 0) || decide (8 ≤ i.val k))) = false := by
          rw [List.any_eq_false]
          intro j hj
          rw [hall j (by simpa using hj)]; simp
        clear hall hL
        repeat (first | simp [h3, h1, hb0, hb1, I8.cvs] | with_reducible refine And.intro (by omega) ?_ | with_reducible refine gsel_pure (by with_unfolding_all rfl) _ (fun hg => by (try simp at hg); simp [hg, h3, h1, hb0, hb1, I8.cvs]; rfl) ?_ | with_reducible refine dsel_pure (by with_unfolding_all rfl) _ (fun hg => by (try simp at hg); simp [hg, h3, h1, hb0, hb1, I8.cvs]; rfl) ?_ | with_reducible refine awp_draw (by kernel_rfl) (by decide +kernel) ?_)
        have hC : ¬ ((List.range 7).any (fun k => !use i.op k && i.val k != 0) = true) := by rw [hA]; simp
        have hD : ¬ ((List.range 3).any (fun k => use i.op k && (decide (i.val k < 0) || decide (8 ≤ i.val k))) = true) := by rw [hB]; simp
        (with_reducible refine condK_intro (fun h => ?_) (fun h => ?_)) <;> (try simp only [h])
        · simp [andB, orB, ltI] at h
          repeat (first | simp | with_reducible refine And.intro (by omega) ?_ | with_reducible refine gsel_pure (by with_unfolding_all rfl) _ (fun hg => by (try simp at hg); simp [hg]; rfl) ?_ | with_reducible refine dsel_pure (by with_unfolding_all rfl) _ (fun hg => by (try simp at hg); simp [hg]; rfl) ?_ | with_reducible refine awp_draw (by kernel_rfl) (by decide +kernel) ?_)
          refine hQ _ _ (ret2 (by simp [retAV, resAV]; rfl) (by simp; rfl) ?_)
          simp only [instE]; rw [if_neg hop, if_neg hC, if_neg hD, if_pos (by simpa using h)]
        · simp [andB, orB, ltI] at h
          have hE : ¬ ((use i.op 6 && (decide (i.ord < 0) || decide (2 < i.ord))) = true) := by simpa using h
          clear h
          repeat (first | simp [h3, h1, hb0, hb1, I8.cvs] | with_reducible refine And.intro (by omega) ?_ | with_reducible refine gsel_pure (by with_unfolding_all rfl) _ (fun hg => by (try simp at hg); simp [hg, h3, h1, hb0, hb1, I8.cvs]; rfl) ?_ | with_reducible refine dsel_pure (by with_unfolding_all rfl) _ (fun hg => by (try simp at hg); simp [hg, h3, h1, hb0, hb1, I8.cvs]; rfl) ?_ | with_reducible refine awp_draw (by kernel_rfl) (by decide +kernel) ?_)
          refine gsel_call (fun hg => at_vName i.fn) (fun hg => by (try simp at hg); simp [hg]) (by simp) (by simp) ?_
          repeat (first | simp | with_reducible refine And.intro (by omega) ?_ | with_reducible refine gsel_pure (by with_unfolding_all rfl) _ (fun hg => by (try simp at hg); simp [hg]; rfl) ?_ | with_reducible refine dsel_pure (by with_unfolding_all rfl) _ (fun hg => by (try simp at hg); simp [hg]; rfl) ?_ | with_reducible refine awp_draw (by kernel_rfl) (by decide +kernel) ?_)
          (with_reducible refine condK_intro (fun h => ?_) (fun h => ?_)) <;> (try simp only [h])
          · simp [andB, orB, nameB_empty] at h
            repeat (first | simp | with_reducible refine And.intro (by omega) ?_ | with_reducible refine gsel_pure (by with_unfolding_all rfl) _ (fun hg => by (try simp at hg); simp [hg]; rfl) ?_ | with_reducible refine dsel_pure (by with_unfolding_all rfl) _ (fun hg => by (try simp at hg); simp [hg]; rfl) ?_ | with_reducible refine awp_draw (by kernel_rfl) (by decide +kernel) ?_)
            refine hQ _ _ (ret2 (by simp [retAV, resAV]; rfl) (by simp; rfl) ?_)
            simp only [instE]; rw [if_neg hop, if_neg hC, if_neg hD, if_neg hE, if_pos (by simpa using h)]
          · simp [andB, orB, nameB_empty] at h
            have hF : ¬ ((use i.op 5 && (decide (i.fn < 1) || decide (10 < i.fn))) = true) := by simpa using h
            clear h
            repeat (first | simp [h3, h1, hb0, hb1, I8.cvs] | with_reducible refine And.intro (by omega) ?_ | with_reducible refine gsel_pure (by with_unfolding_all rfl) _ (fun hg => by (try simp at hg); simp [hg, h3, h1, hb0, hb1, I8.cvs]; rfl) ?_ | with_reducible refine dsel_pure (by with_unfolding_all rfl) _ (fun hg => by (try simp at hg); simp [hg, h3, h1, hb0, hb1, I8.cvs]; rfl) ?_ | with_reducible refine awp_draw (by kernel_rfl) (by decide +kernel) ?_)
            (with_reducible refine condK_intro (fun h => ?_) (fun h => ?_)) <;> (try simp only [h])
            · simp [andB, orB, ltI, eqI] at h
              repeat (first | simp | with_reducible refine And.intro (by omega) ?_ | with_reducible refine gsel_pure (by with_unfolding_all rfl) _ (fun hg => by (try simp at hg); simp [hg]; rfl) ?_ | with_reducible refine dsel_pure (by with_unfolding_all rfl) _ (fun hg => by (try simp at hg); simp [hg]; rfl) ?_ | with_reducible refine awp_draw (by kernel_rfl) (by decide +kernel) ?_)
              refine hQ _ _ (ret2 (by simp [retAV, resAV]; rfl) (by simp; rfl) ?_)
              simp only [instE]; rw [if_neg hop, if_neg hC, if_neg hD, if_neg hE, if_neg hF, if_pos (by simpa using h)]
            · simp [andB, orB, ltI, eqI] at h
              repeat (first | simp | with_reducible refine And.intro (by omega) ?_ | with_reducible refine gsel_pure (by with_unfolding_all rfl) _ (fun hg => by (try simp at hg); simp [hg]; rfl) ?_ | with_reducible refine dsel_pure (by with_unfolding_all rfl) _ (fun hg => by (try simp at hg); simp [hg]; rfl) ?_ | with_reducible refine awp_draw (by kernel_rfl) (by decide +kernel) ?_)
              refine hQ _ _ (ret2 (by simp [retAV, resAV]; rfl) (by simp; rfl) ?_)
              simp only [instE]; rw [if_neg hop, if_neg hC, if_neg hD, if_neg hE, if_neg hF, if_neg (by simpa using h)]
end Go.Proofs
end
section
set_option linter.all false
namespace Go.Proofs
open Go.Fw Go.Dr
set_option maxRecDepth 100000

theorem at_fields : At Tryd.prog 120 [] (.cell (.own 0 1 22 fieldsC)) := by
  refine at_code mixed Tryd.func120 (by kernel_rfl) rfl (by kernel_rfl) (by kernel_rfl) rfl fun Q hQ => ?_
  repeat (first | simp | with_reducible refine And.intro (by omega) ?_ | with_reducible refine gsel_pure (by with_unfolding_all rfl) _ (fun hg => by (try simp at hg); simp [hg]; rfl) ?_ | with_reducible refine dsel_pure (by with_unfolding_all rfl) _ (fun hg => by (try simp at hg); simp [hg]; rfl) ?_ | with_reducible refine awp_draw (by kernel_rfl) (by decide +kernel) ?_)
  refine hQ _ _ (ret2 (by simp [retAV, resAV]; rfl) (by simp; rfl) ?_)
  rfl
@[simp] theorem fieldsC_all : fieldsC.all CV.isC = true := by simp [fieldsC]
theorem at_has (op : Int) (c : UInt8) : At Tryd.prog 107 [iV .i64 op, iV .u8 (c.toNat : Int)] (bV (hasC op c)) := by
  refine at_code mixed Tryd.func107 (by kernel_rfl) rfl (by kernel_rfl) (by kernel_rfl) rfl fun Q hQ => ?_
  repeat (first | simp | with_reducible refine And.intro (by omega) ?_ | with_reducible refine gsel_pure (by with_unfolding_all rfl) _ (fun hg => by (try simp at hg); simp [hg]; rfl) ?_ | with_reducible refine dsel_pure (by with_unfolding_all rfl) _ (fun hg => by (try simp at hg); simp [hg]; rfl) ?_ | with_reducible refine awp_draw (by kernel_rfl) (by decide +kernel) ?_)
  (with_reducible refine condK_intro (fun h => ?_) (fun h => ?_)) <;> (try simp only [h])
  · simp [andB, orB, ltI] at h
    repeat (first | simp | with_reducible refine And.intro (by omega) ?_ | with_reducible refine gsel_pure (by with_unfolding_all rfl) _ (fun hg => by (try simp at hg); simp [hg]; rfl) ?_ | with_reducible refine dsel_pure (by with_unfolding_all rfl) _ (fun hg => by (try simp at hg); simp [hg]; rfl) ?_ | with_reducible refine awp_draw (by kernel_rfl) (by decide +kernel) ?_)
    refine hQ _ _ (ret2 (by simp [retAV, resAV]; rfl) (by simp; rfl) ?_)
    simp [hasC]; omega
  · simp [andB, orB, ltI] at h
    have e1 : IntKind.i64.wrap (op - 1) = op - 1 := wrap_i64 (by omega) (by omega)
    have e2 := fields_get (op := op) (by omega) (by omega)
    have e3 : op - 1 < 22 := by omega
    have hl : (fieldL op).length ≤ 22 := by
      unfold fieldL
      have : ∀ n, n < 22 → (fieldsT.getD n []).length ≤ 22 := by decide
      exact this _ (by omega)
    repeat (first | simp [e1, e2, e3, h] | with_reducible refine And.intro (by omega) ?_ | with_reducible refine gsel_pure (by with_unfolding_all rfl) _ (fun hg => by (try simp at hg); simp [hg, e1, e2, e3, h]; rfl) ?_ | with_reducible refine dsel_pure (by with_unfolding_all rfl) _ (fun hg => by (try simp at hg); simp [hg, e1, e2, e3, h]; rfl) ?_ | with_reducible refine awp_draw (by kernel_rfl) (by decide +kernel) ?_)
    refine gop_call (at_fields) (by simp [h]) (by simp) (by simp) ?_
    repeat (first | simp [e1, e2, e3, h, str_size] | with_reducible refine And.intro (by omega) ?_ | with_reducible refine gsel_pure (by with_unfolding_all rfl) _ (fun hg => by (try simp at hg); simp [hg, e1, e2, e3, h, str_size]; rfl) ?_ | with_reducible refine dsel_pure (by with_unfolding_all rfl) _ (fun hg => by (try simp at hg); simp [hg, e1, e2, e3, h, str_size]; rfl) ?_ | with_reducible refine awp_draw (by kernel_rfl) (by decide +kernel) ?_)
    refine awp_loop (fun s => ∃ k : Nat, k ≤ (fieldL op).length ∧ (c ∉ (fieldL op).take k) ∧ s.env 6 = iV .i64 k ∧ s.env 5 = sV (str (fieldL op)) ∧ s.env 1 = iV .u8 (c.toNat : Int)) (fun s => (fieldL op).length - (s.num 6).toNat) _ (Weak.refl _) ⟨0, by omega, by simp, by simp, by simp, by simp⟩ fun s hs L hL => ?_
    obtain ⟨k, hk, hall, h6, h5, h1⟩ := hs
    repeat (first | simp [h6, h5, h1, str_size] | with_reducible refine And.intro (by omega) ?_ | with_reducible refine gsel_pure (by with_unfolding_all rfl) _ (fun hg => by (try simp at hg); simp [hg, h6, h5, h1, str_size]; rfl) ?_ | with_reducible refine dsel_pure (by with_unfolding_all rfl) _ (fun hg => by (try simp at hg); simp [hg, h6, h5, h1, str_size]; rfl) ?_ | with_reducible refine awp_draw (by kernel_rfl) (by decide +kernel) ?_)
    (with_reducible refine condK_intro (fun h => ?_) (fun h => ?_)) <;> (try simp only [h])
    · simp [andB, orB, ltI] at h
      have hlt := h
      have ew : IntKind.i64.wrap ((k : Int) + 1) = ((k + 1 : Nat) : Int) := by rw [wrap_i64 (by omega) (by omega)]; simp
      repeat (first | simp [h6, h5, h1, str_get, hlt] | with_reducible refine And.intro (by omega) ?_ | with_reducible refine gsel_pure (by with_unfolding_all rfl) _ (fun hg => by (try simp at hg); simp [hg, h6, h5, h1, str_get, hlt]; rfl) ?_ | with_reducible refine dsel_pure (by with_unfolding_all rfl) _ (fun hg => by (try simp at hg); simp [hg, h6, h5, h1, str_get, hlt]; rfl) ?_ | with_reducible refine awp_draw (by kernel_rfl) (by decide +kernel) ?_)
      (with_reducible refine condK_intro (fun h => ?_) (fun h => ?_)) <;> (try simp only [h])
      · simp [andB, orB, eqI] at h
        repeat (first | simp [h6, h5, h1] | with_reducible refine And.intro (by omega) ?_ | with_reducible refine gsel_pure (by with_unfolding_all rfl) _ (fun hg => by (try simp at hg); simp [hg, h6, h5, h1]; rfl) ?_ | with_reducible refine dsel_pure (by with_unfolding_all rfl) _ (fun hg => by (try simp at hg); simp [hg, h6, h5, h1]; rfl) ?_ | with_reducible refine awp_draw (by kernel_rfl) (by decide +kernel) ?_)
        refine hQ _ _ (ret2 (by simp [retAV, resAV]; rfl) (by simp; rfl) ?_)
        have hm : c ∈ fieldL op := (UInt8.toNat_inj.1 (by omega : (fieldL op)[k].toNat = c.toNat)) ▸ List.getElem_mem hlt
        simp [hasC, hm]; omega
      · simp [andB, orB, eqI] at h
        repeat (first | simp [h6, h5, h1, ew] | with_reducible refine And.intro (by omega) ?_ | with_reducible refine gsel_pure (by with_unfolding_all rfl) _ (fun hg => by (try simp at hg); simp [hg, h6, h5, h1, ew]; rfl) ?_ | with_reducible refine dsel_pure (by with_unfolding_all rfl) _ (fun hg => by (try simp at hg); simp [hg, h6, h5, h1, ew]; rfl) ?_ | with_reducible refine awp_draw (by kernel_rfl) (by decide +kernel) ?_)
        refine hL _ ⟨⟨k + 1, hlt, ?_, by simp, by simp [h5], by simp [h1]⟩, ?_⟩
        · rw [List.take_succ_eq_append_getElem hlt]
          simp only [List.mem_append, List.mem_singleton, not_or]
          exact ⟨hall, fun e => h (by rw [e])⟩
        · simp [St.num, h6]; omega
    · simp [andB, orB, ltI] at h
      have : k = (fieldL op).length := by omega
      repeat (first | simp [h6] | with_reducible refine And.intro (by omega) ?_ | with_reducible refine gsel_pure (by with_unfolding_all rfl) _ (fun hg => by (try simp at hg); simp [hg, h6]; rfl) ?_ | with_reducible refine dsel_pure (by with_unfolding_all rfl) _ (fun hg => by (try simp at hg); simp [hg, h6]; rfl) ?_ | with_reducible refine awp_draw (by kernel_rfl) (by decide +kernel) ?_)
      refine hQ _ _ (ret2 (by simp [retAV, resAV]; rfl) (by simp; rfl) ?_)
      subst this
      simp at hall
      simp [hasC, hall]
set_option maxHeartbeats 4000000 in
theorem at_r07Check (i : I8) : At Tryd.prog 75 [i.av] (iV .i64 (instE i)) := by
  obtain ⟨u0, u1, u2, u3, u4, u5, u6⟩ := hasC_use i.op
  refine at_code mixed Tryd.func75 (by kernel_rfl) rfl (by kernel_rfl) (by kernel_rfl) rfl fun Q hQ => ?_
  repeat (first | simp | with_reducible refine And.intro (by omega) ?_ | with_reducible refine gsel_pure (by with_unfolding_all rfl) _ (fun hg => by (try simp at hg); simp [hg]; rfl) ?_ | with_reducible refine dsel_pure (by with_unfolding_all rfl) _ (fun hg => by (try simp at hg); simp [hg]; rfl) ?_ | with_reducible refine awp_draw (by kernel_rfl) (by decide +kernel) ?_)
  (with_reducible refine condK_intro (fun h => ?_) (fun h => ?_)) <;> (try simp only [h])
  · simp [andB, orB, ltI] at h
    repeat (first | simp | with_reducible refine And.intro (by omega) ?_ | with_reducible refine gsel_pure (by with_unfolding_all rfl) _ (fun hg => by (try simp at hg); simp [hg]; rfl) ?_ | with_reducible refine dsel_pure (by with_unfolding_all rfl) _ (fun hg => by (try simp at hg); simp [hg]; rfl) ?_ | with_reducible refine awp_draw (by kernel_rfl) (by decide +kernel) ?_)
    refine hQ _ _ (ret2 (by simp [retAV, resAV]; rfl) (by simp; rfl) ?_)
    simp only [instE]; rw [if_pos (by omega)]
  · simp [andB, orB, ltI] at h
    have hop : ¬ (i.op < 1 ∨ 22 < i.op) := by omega
    repeat (first | simp | with_reducible refine And.intro (by omega) ?_ | with_reducible refine gsel_pure (by with_unfolding_all rfl) _ (fun hg => by (try simp at hg); simp [hg]; rfl) ?_ | with_reducible refine dsel_pure (by with_unfolding_all rfl) _ (fun hg => by (try simp at hg); simp [hg]; rfl) ?_ | with_reducible refine awp_draw (by kernel_rfl) (by decide +kernel) ?_)
    refine gop_call (at_has i.op 65) (by simp) (by simp) (by simp) ?_
    repeat (first | simp | with_reducible refine And.intro (by omega) ?_ | with_reducible refine gsel_pure (by with_unfolding_all rfl) _ (fun hg => by (try simp at hg); simp [hg]; rfl) ?_ | with_reducible refine dsel_pure (by with_unfolding_all rfl) _ (fun hg => by (try simp at hg); simp [hg]; rfl) ?_ | with_reducible refine awp_draw (by kernel_rfl) (by decide +kernel) ?_)
    refine gsel_call (fun hg => at_has i.op 66) (fun hg => by (try simp at hg); simp [hg]) (by simp) (by simp) ?_
    repeat (first | simp | with_reducible refine And.intro (by omega) ?_ | with_reducible refine gsel_pure (by with_unfolding_all rfl) _ (fun hg => by (try simp at hg); simp [hg]; rfl) ?_ | with_reducible refine dsel_pure (by with_unfolding_all rfl) _ (fun hg => by (try simp at hg); simp [hg]; rfl) ?_ | with_reducible refine awp_draw (by kernel_rfl) (by decide +kernel) ?_)
    refine gsel_call (fun hg => at_has i.op 67) (fun hg => by (try simp at hg); simp [hg]) (by simp) (by simp) ?_
    repeat (first | simp | with_reducible refine And.intro (by omega) ?_ | with_reducible refine gsel_pure (by with_unfolding_all rfl) _ (fun hg => by (try simp at hg); simp [hg]; rfl) ?_ | with_reducible refine dsel_pure (by with_unfolding_all rfl) _ (fun hg => by (try simp at hg); simp [hg]; rfl) ?_ | with_reducible refine awp_draw (by kernel_rfl) (by decide +kernel) ?_)
    refine gsel_call (fun hg => at_has i.op 79) (fun hg => by (try simp at hg); simp [hg]) (by simp) (by simp) ?_
    repeat (first | simp | with_reducible refine And.intro (by omega) ?_ | with_reducible refine gsel_pure (by with_unfolding_all rfl) _ (fun hg => by (try simp at hg); simp [hg]; rfl) ?_ | with_reducible refine dsel_pure (by with_unfolding_all rfl) _ (fun hg => by (try simp at hg); simp [hg]; rfl) ?_ | with_reducible refine awp_draw (by kernel_rfl) (by decide +kernel) ?_)
    refine gsel_call (fun hg => at_has i.op 78) (fun hg => by (try simp at hg); simp [hg]) (by simp) (by simp) ?_
    repeat (first | simp | with_reducible refine And.intro (by omega) ?_ | with_reducible refine gsel_pure (by with_unfolding_all rfl) _ (fun hg => by (try simp at hg); simp [hg]; rfl) ?_ | with_reducible refine dsel_pure (by with_unfolding_all rfl) _ (fun hg => by (try simp at hg); simp [hg]; rfl) ?_ | with_reducible refine awp_draw (by kernel_rfl) (by decide +kernel) ?_)
    refine gsel_call (fun hg => at_has i.op 70) (fun hg => by (try simp at hg); simp [hg]) (by simp) (by simp) ?_
    repeat (first | simp | with_reducible refine And.intro (by omega) ?_ | with_reducible refine gsel_pure (by with_unfolding_all rfl) _ (fun hg => by (try simp at hg); simp [hg]; rfl) ?_ | with_reducible refine dsel_pure (by with_unfolding_all rfl) _ (fun hg => by (try simp at hg); simp [hg]; rfl) ?_ | with_reducible refine awp_draw (by kernel_rfl) (by decide +kernel) ?_)
    refine gsel_call (fun hg => at_has i.op 82) (fun hg => by (try simp at hg); simp [hg]) (by simp) (by simp) ?_
    repeat (first | simp | with_reducible refine And.intro (by omega) ?_ | with_reducible refine gsel_pure (by with_unfolding_all rfl) _ (fun hg => by (try simp at hg); simp [hg]; rfl) ?_ | with_reducible refine dsel_pure (by with_unfolding_all rfl) _ (fun hg => by (try simp at hg); simp [hg]; rfl) ?_ | with_reducible refine awp_draw (by kernel_rfl) (by decide +kernel) ?_)
    have hC : ((List.range 7).any (fun k => !use i.op k && i.val k != 0)) = (orB (orB (orB (orB (orB (orB (andB (!use i.op 0) (!eqI i.a 0)) (andB (!use i.op 1) (!eqI i.b 0))) (andB (!use i.op 2) (!eqI i.c 0))) (andB (!use i.op 3) (!eqI i.obj 0))) (andB (!use i.op 4) (!eqI i.n 0))) (andB (!use i.op 5) (!eqI i.fn 0))) (andB (!use i.op 6) (!eqI i.ord 0))) := by
      simp [List.range, List.range.loop, I8.val, I8.vals, orB, andB, eqI, bne, Bool.or_assoc]
    rw [← u0, ← u1, ← u2, ← u3, ← u4, ← u5, ← u6] at hC
    refine condK_at (fun s => s.env 1 = .cell (.ptr 0 0) ∧ s.box 0 = some (i.cvs.map .p)) ((List.range 7).any (fun k => !use i.op k && i.val k != 0)) (by rw [hC]) ⟨by simp, by simp [I8.cvs]⟩ (fun h s ⟨h1, hb⟩ => ?_) (fun h s ⟨h1, hb⟩ => ?_)
    · repeat (first | simp | with_reducible refine And.intro (by omega) ?_ | with_reducible refine gsel_pure (by with_unfolding_all rfl) _ (fun hg => by (try simp at hg); simp [hg]; rfl) ?_ | with_reducible refine dsel_pure (by with_unfolding_all rfl) _ (fun hg => by (try simp at hg); simp [hg]; rfl) ?_ | with_reducible refine awp_draw (by kernel_rfl) (by decide +kernel) ?_)
      refine hQ _ _ (ret2 (by simp [retAV, resAV]; rfl) (by simp; rfl) ?_)
      simp only [instE]; rw [if_neg hop, if_pos h]
    · have hN : ∀ k, k < 7 → use i.op k = false → i.val k = 0 := by
        intro k hk hu
        rw [List.any_eq_false] at h
        have := h k (by simpa using hk)
        simpa [hu] using this
      have hD : ((List.range 3).any (fun k => use i.op k && (decide (i.val k < 0) || decide (8 ≤ i.val k)))) = (orB (orB (!(andB (!ltI i.a 0) (ltI i.a 8))) (!(andB (!ltI i.b 0) (ltI i.b 8)))) (!(andB (!ltI i.c 0) (ltI i.c 8)))) := by
        have n0 := hN 0 (by omega)
        have n1 := hN 1 (by omega)
        have n2 := hN 2 (by omega)
        have e0 : i.val 0 = i.a := rfl
        have e1 : i.val 1 = i.b := rfl
        have e2 : i.val 2 = i.c := rfl
        rw [e0] at n0; rw [e1] at n1; rw [e2] at n2
        have key : ∀ (u : Bool) (x : Int), (u = false → x = 0) → (u && (decide (x < 0) || decide (8 ≤ x))) = !(andB (!ltI x 0) (ltI x 8)) := by
          intro u x hx
          cases u
          · rw [hx rfl]; rfl
          · simp only [andB, ltI, Bool.true_and]
            by_cases h1 : x < 0 <;> by_cases h2 : x < 8 <;> simp [h1, h2] <;> omega
        simp only [List.range, List.range.loop, List.any_cons, List.any_nil, Bool.or_false, e0, e1, e2]
        rw [key _ _ n0, key _ _ n1, key _ _ n2]
        simp only [orB, Bool.or_assoc]
      have hE : (use i.op 6 && (decide (i.ord < 0) || decide (2 < i.ord))) = orB (ltI i.ord 0) (ltI 2 i.ord) := by
        cases hu : use i.op 6
        · have : i.ord = 0 := hN 6 (by omega) hu
          rw [this]; rfl
        · simp [orB, ltI]
      have hC' : ¬ ((List.range 7).any (fun k => !use i.op k && i.val k != 0) = true) := by rw [h]; simp
      clear h hC
      repeat (first | simp [h1, hb, I8.cvs] | with_reducible refine And.intro (by omega) ?_ | with_reducible refine gsel_pure (by with_unfolding_all rfl) _ (fun hg => by (try simp at hg); simp [hg, h1, hb, I8.cvs]; rfl) ?_ | with_reducible refine dsel_pure (by with_unfolding_all rfl) _ (fun hg => by (try simp at hg); simp [hg, h1, hb, I8.cvs]; rfl) ?_ | with_reducible refine awp_draw (by kernel_rfl) (by decide +kernel) ?_)
      refine gop_call (at_register i.a) (by simp [h1, hb, I8.cvs]) (by simp) (by simp) ?_
      repeat (first | simp [h1, hb, I8.cvs] | with_reducible refine And.intro (by omega) ?_ | with_reducible refine gsel_pure (by with_unfolding_all rfl) _ (fun hg => by (try simp at hg); simp [hg, h1, hb, I8.cvs]; rfl) ?_ | with_reducible refine dsel_pure (by with_unfolding_all rfl) _ (fun hg => by (try simp at hg); simp [hg, h1, hb, I8.cvs]; rfl) ?_ | with_reducible refine awp_draw (by kernel_rfl) (by decide +kernel) ?_)
      refine gsel_call (fun hg => at_register i.b) (fun hg => by (try simp at hg); simp [hg, h1, hb, I8.cvs]) (by simp) (by simp) ?_
      repeat (first | simp [h1, hb, I8.cvs] | with_reducible refine And.intro (by omega) ?_ | with_reducible refine gsel_pure (by with_unfolding_all rfl) _ (fun hg => by (try simp at hg); simp [hg, h1, hb, I8.cvs]; rfl) ?_ | with_reducible refine dsel_pure (by with_unfolding_all rfl) _ (fun hg => by (try simp at hg); simp [hg, h1, hb, I8.cvs]; rfl) ?_ | with_reducible refine awp_draw (by kernel_rfl) (by decide +kernel) ?_)
      refine gsel_call (fun hg => at_register i.c) (fun hg => by (try simp at hg); simp [hg, h1, hb, I8.cvs]) (by simp) (by simp) ?_
      repeat (first | simp [h1, hb, I8.cvs] | with_reducible refine And.intro (by omega) ?_ | with_reducible refine gsel_pure (by with_unfolding_all rfl) _ (fun hg => by (try simp at hg); simp [hg, h1, hb, I8.cvs]; rfl) ?_ | with_reducible refine dsel_pure (by with_unfolding_all rfl) _ (fun hg => by (try simp at hg); simp [hg, h1, hb, I8.cvs]; rfl) ?_ | with_reducible refine awp_draw (by kernel_rfl) (by decide +kernel) ?_)
      refine condK_at (fun s => s.env 1 = .cell (.ptr 0 0) ∧ s.box 0 = some (i.cvs.map .p)) ((List.range 3).any (fun k => use i.op k && (decide (i.val k < 0) || decide (8 ≤ i.val k)))) (by rw [hD]) ⟨by simp [h1], by simp [hb]⟩ (fun h s ⟨h1, hb⟩ => ?_) (fun h s ⟨h1, hb⟩ => ?_)
      · repeat (first | simp | with_reducible refine And.intro (by omega) ?_ | with_reducible refine gsel_pure (by with_unfolding_all rfl) _ (fun hg => by (try simp at hg); simp [hg]; rfl) ?_ | with_reducible refine dsel_pure (by with_unfolding_all rfl) _ (fun hg => by (try simp at hg); simp [hg]; rfl) ?_ | with_reducible refine awp_draw (by kernel_rfl) (by decide +kernel) ?_)
        refine hQ _ _ (ret2 (by simp [retAV, resAV]; rfl) (by simp; rfl) ?_)
        simp only [instE]; rw [if_neg hop, if_neg hC', if_pos h]
      · have hD' : ¬ ((List.range 3).any (fun k => use i.op k && (decide (i.val k < 0) || decide (8 ≤ i.val k))) = true) := by rw [h]; simp
        clear h
        repeat (first | simp [h1, hb, I8.cvs] | with_reducible refine And.intro (by omega) ?_ | with_reducible refine gsel_pure (by with_unfolding_all rfl) _ (fun hg => by (try simp at hg); simp [hg, h1, hb, I8.cvs]; rfl) ?_ | with_reducible refine dsel_pure (by with_unfolding_all rfl) _ (fun hg => by (try simp at hg); simp [hg, h1, hb, I8.cvs]; rfl) ?_ | with_reducible refine awp_draw (by kernel_rfl) (by decide +kernel) ?_)
        (with_reducible refine condK_intro (fun h => ?_) (fun h => ?_)) <;> (try simp only [h])
        · rw [← hE] at h
          repeat (first | simp | with_reducible refine And.intro (by omega) ?_ | with_reducible refine gsel_pure (by with_unfolding_all rfl) _ (fun hg => by (try simp at hg); simp [hg]; rfl) ?_ | with_reducible refine dsel_pure (by with_unfolding_all rfl) _ (fun hg => by (try simp at hg); simp [hg]; rfl) ?_ | with_reducible refine awp_draw (by kernel_rfl) (by decide +kernel) ?_)
          refine hQ _ _ (ret2 (by simp [retAV, resAV]; rfl) (by simp; rfl) ?_)
          simp only [instE]; rw [if_neg hop, if_neg hC', if_neg hD', if_pos h]
        · have hE' : ¬ ((use i.op 6 && (decide (i.ord < 0) || decide (2 < i.ord))) = true) := by rw [hE, h]; simp
          clear h
          repeat (first | simp [h1, hb, I8.cvs] | with_reducible refine And.intro (by omega) ?_ | with_reducible refine gsel_pure (by with_unfolding_all rfl) _ (fun hg => by (try simp at hg); simp [hg, h1, hb, I8.cvs]; rfl) ?_ | with_reducible refine dsel_pure (by with_unfolding_all rfl) _ (fun hg => by (try simp at hg); simp [hg, h1, hb, I8.cvs]; rfl) ?_ | with_reducible refine awp_draw (by kernel_rfl) (by decide +kernel) ?_)
          refine gop_call (at_has i.op 70) (by simp [h1, hb, I8.cvs]) (by simp) (by simp) ?_
          repeat (first | simp [h1, hb, I8.cvs] | with_reducible refine And.intro (by omega) ?_ | with_reducible refine gsel_pure (by with_unfolding_all rfl) _ (fun hg => by (try simp at hg); simp [hg, h1, hb, I8.cvs]; rfl) ?_ | with_reducible refine dsel_pure (by with_unfolding_all rfl) _ (fun hg => by (try simp at hg); simp [hg, h1, hb, I8.cvs]; rfl) ?_ | with_reducible refine awp_draw (by kernel_rfl) (by decide +kernel) ?_)
          refine gsel_call (fun hg => at_rName i.fn) (fun hg => by (try simp at hg); simp [hg, h1, hb, I8.cvs]) (by simp) (by simp) ?_
          repeat (first | simp [h1, hb, I8.cvs] | with_reducible refine And.intro (by omega) ?_ | with_reducible refine gsel_pure (by with_unfolding_all rfl) _ (fun hg => by (try simp at hg); simp [hg, h1, hb, I8.cvs]; rfl) ?_ | with_reducible refine dsel_pure (by with_unfolding_all rfl) _ (fun hg => by (try simp at hg); simp [hg, h1, hb, I8.cvs]; rfl) ?_ | with_reducible refine awp_draw (by kernel_rfl) (by decide +kernel) ?_)
          (with_reducible refine condK_intro (fun h => ?_) (fun h => ?_)) <;> (try simp only [h])
          · simp [andB, orB, u5, nameB_empty] at h
            repeat (first | simp | with_reducible refine And.intro (by omega) ?_ | with_reducible refine gsel_pure (by with_unfolding_all rfl) _ (fun hg => by (try simp at hg); simp [hg]; rfl) ?_ | with_reducible refine dsel_pure (by with_unfolding_all rfl) _ (fun hg => by (try simp at hg); simp [hg]; rfl) ?_ | with_reducible refine awp_draw (by kernel_rfl) (by decide +kernel) ?_)
            refine hQ _ _ (ret2 (by simp [retAV, resAV]; rfl) (by simp; rfl) ?_)
            simp only [instE]; rw [if_neg hop, if_neg hC', if_neg hD', if_neg hE', if_pos (by simpa using h)]
          · simp [andB, orB, u5, nameB_empty] at h
            have hF : ¬ ((use i.op 5 && (decide (i.fn < 1) || decide (10 < i.fn))) = true) := by simpa using h
            clear h
            repeat (first | simp [h1, hb, I8.cvs] | with_reducible refine And.intro (by omega) ?_ | with_reducible refine gsel_pure (by with_unfolding_all rfl) _ (fun hg => by (try simp at hg); simp [hg, h1, hb, I8.cvs]; rfl) ?_ | with_reducible refine dsel_pure (by with_unfolding_all rfl) _ (fun hg => by (try simp at hg); simp [hg, h1, hb, I8.cvs]; rfl) ?_ | with_reducible refine awp_draw (by kernel_rfl) (by decide +kernel) ?_)
            (with_reducible refine condK_intro (fun h => ?_) (fun h => ?_)) <;> (try simp only [h])
            · simp [andB, orB, ltI, eqI] at h
              repeat (first | simp | with_reducible refine And.intro (by omega) ?_ | with_reducible refine gsel_pure (by with_unfolding_all rfl) _ (fun hg => by (try simp at hg); simp [hg]; rfl) ?_ | with_reducible refine dsel_pure (by with_unfolding_all rfl) _ (fun hg => by (try simp at hg); simp [hg]; rfl) ?_ | with_reducible refine awp_draw (by kernel_rfl) (by decide +kernel) ?_)
              refine hQ _ _ (ret2 (by simp [retAV, resAV]; rfl) (by simp; rfl) ?_)
              simp only [instE]; rw [if_neg hop, if_neg hC', if_neg hD', if_neg hE', if_neg hF, if_pos (by simpa using h)]
            · simp [andB, orB, ltI, eqI] at h
              repeat (first | simp | with_reducible refine And.intro (by omega) ?_ | with_reducible refine gsel_pure (by with_unfolding_all rfl) _ (fun hg => by (try simp at hg); simp [hg]; rfl) ?_ | with_reducible refine dsel_pure (by with_unfolding_all rfl) _ (fun hg => by (try simp at hg); simp [hg]; rfl) ?_ | with_reducible refine awp_draw (by kernel_rfl) (by decide +kernel) ?_)
              refine hQ _ _ (ret2 (by simp [retAV, resAV]; rfl) (by simp; rfl) ?_)
              simp only [instE]; rw [if_neg hop, if_neg hC', if_neg hD', if_neg hE', if_neg hF, if_neg (by simpa using h)]
end Go.Proofs
end
section
set_option linter.all false
namespace Go.Proofs
open Go.Fw Go.Dr
set_option maxRecDepth 100000


theorem at_cfgCheck (name : ByteArray) (l : List I8) : At Tryd.prog 47 [fAV name l] (iV .i64 (funcE l)) := by
  refine at_code mixed Tryd.func47 (by kernel_rfl) rfl (by kernel_rfl) (by kernel_rfl) rfl fun Q hQ => ?_
  repeat (first | simp | with_reducible refine And.intro (by omega) ?_ | with_reducible refine gsel_pure (by with_unfolding_all rfl) _ (fun hg => by (try simp at hg); simp [hg]; rfl) ?_ | with_reducible refine dsel_pure (by with_unfolding_all rfl) _ (fun hg => by (try simp at hg); simp [hg]; rfl) ?_ | with_reducible refine awp_draw (by kernel_rfl) (by decide +kernel) ?_)
  (with_reducible refine condK_intro (fun h => ?_) (fun h => ?_)) <;> (try simp only [h])
  · simp [ltI] at h
    repeat (first | simp | with_reducible refine And.intro (by omega) ?_ | with_reducible refine gsel_pure (by with_unfolding_all rfl) _ (fun hg => by (try simp at hg); simp [hg]; rfl) ?_ | with_reducible refine dsel_pure (by with_unfolding_all rfl) _ (fun hg => by (try simp at hg); simp [hg]; rfl) ?_ | with_reducible refine awp_draw (by kernel_rfl) (by decide +kernel) ?_)
    refine hQ _ _ (ret2 (by simp [retAV, resAV]; rfl) (by simp; rfl) ?_)
    simp only [funcE]; rw [if_pos (by omega)]
  · simp [ltI] at h
    have h64 : l.length ≤ 64 := by omega
    have hfe : funcE l = codeE l.length l := by unfold funcE; rw [if_neg (by omega)]
    repeat (first | simp | with_reducible refine And.intro (by omega) ?_ | with_reducible refine gsel_pure (by with_unfolding_all rfl) _ (fun hg => by (try simp at hg); simp [hg]; rfl) ?_ | with_reducible refine dsel_pure (by with_unfolding_all rfl) _ (fun hg => by (try simp at hg); simp [hg]; rfl) ?_ | with_reducible refine awp_draw (by kernel_rfl) (by decide +kernel) ?_)
    refine awp_loop (fun s => ∃ k : Nat, k ≤ l.length ∧ codeE l.length l = codeE l.length (l.drop k) ∧ s.env 13 = iV .i64 k ∧ s.env 11 = .cell (.p (.sl l.length (codeC l))) ∧ s.env 12 = iV .i64 l.length ∧ s.env 1 = .cell (.ptr 0 0) ∧
      s.box 0 = some [.p (sC name), .p (.sl l.length (codeC l))]) (fun s => l.length - (s.num 13).toNat) _ (Weak.refl _) ⟨0, by omega, by simp, by simp, by simp, by simp, by simp, by simp⟩ fun s hs L hL => ?_
    obtain ⟨k, hk, hall, h13, h11, h12, h1, hb0⟩ := hs
    repeat (first | simp [h13, h11, h12, h1, hb0] | with_reducible refine And.intro (by omega) ?_ | with_reducible refine gsel_pure (by with_unfolding_all rfl) _ (fun hg => by (try simp at hg); simp [hg, h13, h11, h12, h1, hb0]; rfl) ?_ | with_reducible refine dsel_pure (by with_unfolding_all rfl) _ (fun hg => by (try simp at hg); simp [hg, h13, h11, h12, h1, hb0]; rfl) ?_ | with_reducible refine awp_draw (by kernel_rfl) (by decide +kernel) ?_)
    (with_reducible refine condK_intro (fun h => ?_) (fun h => ?_)) <;> (try simp only [h])
    · simp [ltI] at h
      have hlt := h
      have ew : IntKind.i64.wrap ((k : Int) + 1) = ((k + 1 : Nat) : Int) := by rw [wrap_i64 (by omega) (by omega)]; simp
      have ec := codeC_partP l hlt
      have el : k * 8 + 8 ≤ l.length * 8 := by omega
      repeat (first | simp [h13, h11, h12, h1, hb0, hlt, ec, el, I8.cvs] | with_reducible refine And.intro (by omega) ?_ | with_reducible refine gsel_pure (by with_unfolding_all rfl) _ (fun hg => by (try simp at hg); simp [hg, h13, h11, h12, h1, hb0, hlt, ec, el, I8.cvs]; rfl) ?_ | with_reducible refine dsel_pure (by with_unfolding_all rfl) _ (fun hg => by (try simp at hg); simp [hg, h13, h11, h12, h1, hb0, hlt, ec, el, I8.cvs]; rfl) ?_ | with_reducible refine awp_draw (by kernel_rfl) (by decide +kernel) ?_)
      refine gop_call (at_instCheck l[k]) (by simp [h13, h11, h12, h1, hb0, hlt]) (by simp) (by simp) ?_
      repeat (first | simp [h13, h11, h12, h1, hb0, hlt] | with_reducible refine And.intro (by omega) ?_ | with_reducible refine gsel_pure (by with_unfolding_all rfl) _ (fun hg => by (try simp at hg); simp [hg, h13, h11, h12, h1, hb0, hlt]; rfl) ?_ | with_reducible refine dsel_pure (by with_unfolding_all rfl) _ (fun hg => by (try simp at hg); simp [hg, h13, h11, h12, h1, hb0, hlt]; rfl) ?_ | with_reducible refine awp_draw (by kernel_rfl) (by decide +kernel) ?_)
      (with_reducible refine condK_intro (fun h => ?_) (fun h => ?_)) <;> (try simp only [h])
      · simp [eqI] at h
        repeat (first | simp | with_reducible refine And.intro (by omega) ?_ | with_reducible refine gsel_pure (by with_unfolding_all rfl) _ (fun hg => by (try simp at hg); simp [hg]; rfl) ?_ | with_reducible refine dsel_pure (by with_unfolding_all rfl) _ (fun hg => by (try simp at hg); simp [hg]; rfl) ?_ | with_reducible refine awp_draw (by kernel_rfl) (by decide +kernel) ?_)
        refine hQ _ _ (ret2 (by simp [retAV, resAV]; rfl) (by simp; rfl) ?_)
        simp [hfe, hall, codeE_inst hlt h]
      · simp [eqI] at h
        have hi := h
        repeat (first | simp [h13, h11, h12, h1, hb0, hlt] | with_reducible refine And.intro (by omega) ?_ | with_reducible refine gsel_pure (by with_unfolding_all rfl) _ (fun hg => by (try simp at hg); simp [hg, h13, h11, h12, h1, hb0, hlt]; rfl) ?_ | with_reducible refine dsel_pure (by with_unfolding_all rfl) _ (fun hg => by (try simp at hg); simp [hg, h13, h11, h12, h1, hb0, hlt]; rfl) ?_ | with_reducible refine awp_draw (by kernel_rfl) (by decide +kernel) ?_)
        (with_reducible refine condK_intro (fun h => ?_) (fun h => ?_)) <;> (try simp only [h])
        · have hb : badT l.length l[k] = true := by simpa [andB, orB, eqI, ltI, badT] using h
          repeat (first | simp | with_reducible refine And.intro (by omega) ?_ | with_reducible refine gsel_pure (by with_unfolding_all rfl) _ (fun hg => by (try simp at hg); simp [hg]; rfl) ?_ | with_reducible refine dsel_pure (by with_unfolding_all rfl) _ (fun hg => by (try simp at hg); simp [hg]; rfl) ?_ | with_reducible refine awp_draw (by kernel_rfl) (by decide +kernel) ?_)
          refine hQ _ _ (ret2 (by simp [retAV, resAV]; rfl) (by simp; rfl) ?_)
          simp [hfe, hall, codeE_jump hlt hi hb]
        · have hb : badT l.length l[k] = false := by
            rw [← Bool.not_eq_true]
            intro hb
            rw [← Bool.not_eq_true] at h
            exact h (by simpa [andB, orB, eqI, ltI, badT] using hb)
          repeat (first | simp [h13, h11, h12, h1, hb0, hlt, ew] | with_reducible refine And.intro (by omega) ?_ | with_reducible refine gsel_pure (by with_unfolding_all rfl) _ (fun hg => by (try simp at hg); simp [hg, h13, h11, h12, h1, hb0, hlt, ew]; rfl) ?_ | with_reducible refine dsel_pure (by with_unfolding_all rfl) _ (fun hg => by (try simp at hg); simp [hg, h13, h11, h12, h1, hb0, hlt, ew]; rfl) ?_ | with_reducible refine awp_draw (by kernel_rfl) (by decide +kernel) ?_)
          refine hL _ ⟨⟨k + 1, by omega, by rw [hall, codeE_step hlt hi hb], by simp, by simp [h11], by simp [h12], by simp [h1], by simp [hb0]⟩, ?_⟩
          simp [St.num, h13]; omega
    · simp [ltI] at h
      have hkl : k = l.length := by omega
      subst hkl
      repeat (first | simp | with_reducible refine And.intro (by omega) ?_ | with_reducible refine gsel_pure (by with_unfolding_all rfl) _ (fun hg => by (try simp at hg); simp [hg]; rfl) ?_ | with_reducible refine dsel_pure (by with_unfolding_all rfl) _ (fun hg => by (try simp at hg); simp [hg]; rfl) ?_ | with_reducible refine awp_draw (by kernel_rfl) (by decide +kernel) ?_)
      refine hQ _ _ (ret2 (by simp [retAV, resAV]; rfl) (by simp; rfl) ?_)
      simp [hfe, hall, codeE]

set_option maxHeartbeats 1000000 in
theorem at_r12Check (name : ByteArray) (l : List I8) : At Tryd.prog 50 [fAV name l] (iV .i64 (funcE l)) := by
  refine at_code mixed Tryd.func50 (by kernel_rfl) rfl (by kernel_rfl) (by kernel_rfl) rfl fun Q hQ => ?_
  repeat (first | simp | with_reducible refine And.intro (by omega) ?_ | with_reducible refine gsel_pure (by with_unfolding_all rfl) _ (fun hg => by (try simp at hg); simp [hg]; rfl) ?_ | with_reducible refine dsel_pure (by with_unfolding_all rfl) _ (fun hg => by (try simp at hg); simp [hg]; rfl) ?_ | with_reducible refine awp_draw (by kernel_rfl) (by decide +kernel) ?_)
  (with_reducible refine condK_intro (fun h => ?_) (fun h => ?_)) <;> (try simp only [h])
  · simp [ltI] at h
    repeat (first | simp | with_reducible refine And.intro (by omega) ?_ | with_reducible refine gsel_pure (by with_unfolding_all rfl) _ (fun hg => by (try simp at hg); simp [hg]; rfl) ?_ | with_reducible refine dsel_pure (by with_unfolding_all rfl) _ (fun hg => by (try simp at hg); simp [hg]; rfl) ?_ | with_reducible refine awp_draw (by kernel_rfl) (by decide +kernel) ?_)
    refine hQ _ _ (ret2 (by simp [retAV, resAV]; rfl) (by simp; rfl) ?_)
    simp only [funcE]; rw [if_pos (by omega)]
  · simp [ltI] at h
    have h64 : l.length ≤ 64 := by omega
    have hfe : funcE l = codeE l.length l := by unfold funcE; rw [if_neg (by omega)]
    repeat (first | simp | with_reducible refine And.intro (by omega) ?_ | with_reducible refine gsel_pure (by with_unfolding_all rfl) _ (fun hg => by (try simp at hg); simp [hg]; rfl) ?_ | with_reducible refine dsel_pure (by with_unfolding_all rfl) _ (fun hg => by (try simp at hg); simp [hg]; rfl) ?_ | with_reducible refine awp_draw (by kernel_rfl) (by decide +kernel) ?_)
    refine awp_loop (fun s => ∃ k : Nat, k ≤ l.length ∧ codeE l.length l = codeE l.length (l.drop k) ∧ s.env 3 = iV .i64 k ∧ s.env 1 = .cell (.ptr 0 0) ∧
      s.box 0 = some [.p (sC name), .p (.sl l.length (codeC l))]) (fun s => l.length - (s.num 3).toNat) _ (Weak.refl _) ⟨0, by omega, by simp, by simp, by simp, by simp⟩ fun s hs L hL => ?_
    obtain ⟨k, hk, hall, h3, h1, hb0⟩ := hs
    repeat (first | simp [h3, h1, hb0] | with_reducible refine And.intro (by omega) ?_ | with_reducible refine gsel_pure (by with_unfolding_all rfl) _ (fun hg => by (try simp at hg); simp [hg, h3, h1, hb0]; rfl) ?_ | with_reducible refine dsel_pure (by with_unfolding_all rfl) _ (fun hg => by (try simp at hg); simp [hg, h3, h1, hb0]; rfl) ?_ | with_reducible refine awp_draw (by kernel_rfl) (by decide +kernel) ?_)
    (with_reducible refine condK_intro (fun h => ?_) (fun h => ?_)) <;> (try simp only [h])
    · simp [ltI] at h
      have hlt := h
      have ew : IntKind.i64.wrap ((k : Int) + 1) = ((k + 1 : Nat) : Int) := by rw [wrap_i64 (by omega) (by omega)]; simp
      have ec := codeC_partP l hlt
      have el : k * 8 + 8 ≤ l.length * 8 := by omega
      have eo := codeC_op l hlt
      have en := codeC_n l hlt
      repeat (first | simp [h3, h1, hb0, hlt, ec, el, I8.cvs] | with_reducible refine And.intro (by omega) ?_ | with_reducible refine gsel_pure (by with_unfolding_all rfl) _ (fun hg => by (try simp at hg); simp [hg, h3, h1, hb0, hlt, ec, el, I8.cvs]; rfl) ?_ | with_reducible refine dsel_pure (by with_unfolding_all rfl) _ (fun hg => by (try simp at hg); simp [hg, h3, h1, hb0, hlt, ec, el, I8.cvs]; rfl) ?_ | with_reducible refine awp_draw (by kernel_rfl) (by decide +kernel) ?_)
      refine gop_call (at_r07Check l[k]) (by simp [h3, h1, hb0, hlt]) (by simp) (by simp) ?_
      repeat (first | simp [h3, h1, hb0, hlt] | with_reducible refine And.intro (by omega) ?_ | with_reducible refine gsel_pure (by with_unfolding_all rfl) _ (fun hg => by (try simp at hg); simp [hg, h3, h1, hb0, hlt]; rfl) ?_ | with_reducible refine dsel_pure (by with_unfolding_all rfl) _ (fun hg => by (try simp at hg); simp [hg, h3, h1, hb0, hlt]; rfl) ?_ | with_reducible refine awp_draw (by kernel_rfl) (by decide +kernel) ?_)
      (with_reducible refine condK_intro (fun h => ?_) (fun h => ?_)) <;> (try simp only [h])
      · simp [eqI] at h
        repeat (first | simp | with_reducible refine And.intro (by omega) ?_ | with_reducible refine gsel_pure (by with_unfolding_all rfl) _ (fun hg => by (try simp at hg); simp [hg]; rfl) ?_ | with_reducible refine dsel_pure (by with_unfolding_all rfl) _ (fun hg => by (try simp at hg); simp [hg]; rfl) ?_ | with_reducible refine awp_draw (by kernel_rfl) (by decide +kernel) ?_)
        refine hQ _ _ (ret2 (by simp [retAV, resAV]; rfl) (by simp; rfl) ?_)
        simp [hfe, hall, codeE_inst hlt h]
      · simp [eqI] at h
        have hi := h
        repeat (first | simp [h3, h1, hb0, hlt, eo, en] | with_reducible refine And.intro (by omega) ?_ | with_reducible refine gsel_pure (by with_unfolding_all rfl) _ (fun hg => by (try simp at hg); simp [hg, h3, h1, hb0, hlt, eo, en]; rfl) ?_ | with_reducible refine dsel_pure (by with_unfolding_all rfl) _ (fun hg => by (try simp at hg); simp [hg, h3, h1, hb0, hlt, eo, en]; rfl) ?_ | with_reducible refine awp_draw (by kernel_rfl) (by decide +kernel) ?_)
        (with_reducible refine condK_intro (fun h => ?_) (fun h => ?_)) <;> (try simp only [h])
        · have hb : badT l.length l[k] = true := by simpa [andB, orB, eqI, ltI, badT] using h
          repeat (first | simp | with_reducible refine And.intro (by omega) ?_ | with_reducible refine gsel_pure (by with_unfolding_all rfl) _ (fun hg => by (try simp at hg); simp [hg]; rfl) ?_ | with_reducible refine dsel_pure (by with_unfolding_all rfl) _ (fun hg => by (try simp at hg); simp [hg]; rfl) ?_ | with_reducible refine awp_draw (by kernel_rfl) (by decide +kernel) ?_)
          refine hQ _ _ (ret2 (by simp [retAV, resAV]; rfl) (by simp; rfl) ?_)
          simp [hfe, hall, codeE_jump hlt hi hb]
        · have hb : badT l.length l[k] = false := by
            rw [← Bool.not_eq_true]
            intro hb
            rw [← Bool.not_eq_true] at h
            exact h (by simpa [andB, orB, eqI, ltI, badT] using hb)
          repeat (first | simp [h3, h1, hb0, hlt, ew] | with_reducible refine And.intro (by omega) ?_ | with_reducible refine gsel_pure (by with_unfolding_all rfl) _ (fun hg => by (try simp at hg); simp [hg, h3, h1, hb0, hlt, ew]; rfl) ?_ | with_reducible refine dsel_pure (by with_unfolding_all rfl) _ (fun hg => by (try simp at hg); simp [hg, h3, h1, hb0, hlt, ew]; rfl) ?_ | with_reducible refine awp_draw (by kernel_rfl) (by decide +kernel) ?_)
          refine hL _ ⟨⟨k + 1, by omega, by rw [hall, codeE_step hlt hi hb], by simp, by simp [h1], by simp [hb0]⟩, ?_⟩
          simp [St.num, h3]; omega
    · simp [ltI] at h
      have hkl : k = l.length := by omega
      subst hkl
      repeat (first | simp | with_reducible refine And.intro (by omega) ?_ | with_reducible refine gsel_pure (by with_unfolding_all rfl) _ (fun hg => by (try simp at hg); simp [hg]; rfl) ?_ | with_reducible refine dsel_pure (by with_unfolding_all rfl) _ (fun hg => by (try simp at hg); simp [hg]; rfl) ?_ | with_reducible refine awp_draw (by kernel_rfl) (by decide +kernel) ?_)
      refine hQ _ _ (ret2 (by simp [retAV, resAV]; rfl) (by simp; rfl) ?_)
      simp [hfe, hall, codeE]
end Go.Proofs
end
section
set_option linter.all false
namespace Go.Dr
open Go.Fw

/-- A program. -/
structure Pg where
  vars : List (ByteArray × Int)
  mutexes : List ByteArray
  conds : List ByteArray
  funcs : List (ByteArray × List I8)
  threads : List (Int × Int)
  deriving Inhabited
def varC (v : ByteArray × Int) : List CV := [sC v.1, iC v.2]
def funC (f : ByteArray × List I8) : List CV := [sC f.1, .sl f.2.length (codeC f.2)]
def thrC (t : Int × Int) : List CV := [iC t.1, iC t.2]
def varsC (l : List (ByteArray × Int)) : List CV := l.flatMap varC
def funcsC (l : List (ByteArray × List I8)) : List CV := l.flatMap funC
def thrsC (l : List (Int × Int)) : List CV := l.flatMap thrC
def strsC (l : List ByteArray) : List CV := l.map sC
def Pg.cvs (p : Pg) : List CV := [.sl p.vars.length (varsC p.vars), .sl p.mutexes.length (strsC p.mutexes), .sl p.conds.length (strsC p.conds), .sl p.funcs.length (funcsC p.funcs), .sl p.threads.length (thrsC p.threads)]
abbrev Pg.av (p : Pg) : AV := .agg [.p (.sl p.vars.length (varsC p.vars)), .p (.sl p.mutexes.length (strsC p.mutexes)), .p (.sl p.conds.length (strsC p.conds)), .p (.sl p.funcs.length (funcsC p.funcs)), .p (.sl p.threads.length (thrsC p.threads))]
abbrev strsA (l : List ByteArray) : AV := .cell (.p (.sl l.length (strsC l)))

/-! Rows -/
theorem rowP {α : Type} {f : α → List CV} {s : Nat} (hs : ∀ a, (f a).length = s) (l : List α) {i : Nat} (h : i < l.length) : (((l.flatMap f).map AC.p).drop (i * s)).take s = (f l[i]).map .p := by
  rw [← List.map_drop, ← List.map_take]
  have := blk_part hs l h (show 0 + s ≤ s by omega)
  simp only [Nat.add_zero, List.drop_zero] at this
  rw [this, List.take_of_length_le (by rw [hs]; exact Nat.le_refl _)]
theorem rowG {α : Type} {f : α → List CV} {s : Nat} (hs : ∀ a, (f a).length = s) (l : List α) {i k : Nat} (h : i < l.length) (hk : k < s) : (l.flatMap f)[i * s + k]? = (f l[i])[k]? := blk_get hs l h hk
@[simp] theorem varsC_length (l : List (ByteArray × Int)) : (varsC l).length = l.length * 2 := blk_length (f := varC) (s := 2) (fun _ => rfl) l
@[simp] theorem funcsC_length (l : List (ByteArray × List I8)) : (funcsC l).length = l.length * 2 := blk_length (f := funC) (s := 2) (fun _ => rfl) l
@[simp] theorem thrsC_length (l : List (Int × Int)) : (thrsC l).length = l.length * 2 := blk_length (f := thrC) (s := 2) (fun _ => rfl) l
@[simp] theorem strsC_length (l : List ByteArray) : (strsC l).length = l.length := by simp [strsC]
@[simp] theorem varsC_part (l : List (ByteArray × Int)) {i : Nat} (h : i < l.length) : (((varsC l).map AC.p).drop (i * 2)).take 2 = [.p (sC l[i].1), .p (iC l[i].2)] := rowP (f := varC) (s := 2) (fun _ => rfl) l h
@[simp] theorem funcsC_part (l : List (ByteArray × List I8)) {i : Nat} (h : i < l.length) : (((funcsC l).map AC.p).drop (i * 2)).take 2 = [.p (sC l[i].1), .p (.sl l[i].2.length (codeC l[i].2))] := rowP (f := funC) (s := 2) (fun _ => rfl) l h
@[simp] theorem thrsC_part (l : List (Int × Int)) {i : Nat} (h : i < l.length) : (((thrsC l).map AC.p).drop (i * 2)).take 2 = [.p (iC l[i].1), .p (iC l[i].2)] := rowP (f := thrC) (s := 2) (fun _ => rfl) l h
@[simp] theorem codeC_part8 (l : List I8) {i : Nat} (h : i < l.length) : (((codeC l).map AC.p).drop (i * 8)).take 8 = [.p (iC l[i].op), .p (iC l[i].a), .p (iC l[i].b), .p (iC l[i].c), .p (iC l[i].obj), .p (iC l[i].n), .p (iC l[i].fn), .p (iC l[i].ord)] := codeC_partP l h
theorem get0 {α : Type} {f : α → List CV} {s : Nat} (hs : ∀ a, (f a).length = s) (l : List α) {i : Nat} (h : i < l.length) (hk : 0 < s) : (l.flatMap f)[i * s]? = (f l[i])[0]? := by have := blk_get hs l h hk; simpa using this
@[simp] theorem varsC_get0 (l : List (ByteArray × Int)) {i : Nat} (h : i * 2 < (varsC l).length) : (varsC l)[i * 2] = sC (l[i]'(by simp at h; omega)).1 := by
  have := get0 (f := varC) (s := 2) (fun _ => rfl) l (i := i) (by simp at h; omega) (by omega)
  rw [show (l.flatMap varC) = varsC l from rfl, List.getElem?_eq_getElem h] at this
  exact Option.some.inj this
@[simp] theorem varsC_get1 (l : List (ByteArray × Int)) {i : Nat} (h : i * 2 + 1 < (varsC l).length) : (varsC l)[i * 2 + 1] = iC (l[i]'(by simp at h; omega)).2 := by
  have := rowG (f := varC) (s := 2) (fun _ => rfl) l (i := i) (k := 1) (by simp at h; omega) (by omega)
  rw [show (l.flatMap varC) = varsC l from rfl, List.getElem?_eq_getElem h] at this
  exact Option.some.inj this
@[simp] theorem funcsC_get0 (l : List (ByteArray × List I8)) {i : Nat} (h : i * 2 < (funcsC l).length) : (funcsC l)[i * 2] = sC (l[i]'(by simp at h; omega)).1 := by
  have := get0 (f := funC) (s := 2) (fun _ => rfl) l (i := i) (by simp at h; omega) (by omega)
  rw [show (l.flatMap funC) = funcsC l from rfl, List.getElem?_eq_getElem h] at this
  exact Option.some.inj this
@[simp] theorem funcsC_get1 (l : List (ByteArray × List I8)) {i : Nat} (h : i * 2 + 1 < (funcsC l).length) : (funcsC l)[i * 2 + 1] = .sl (l[i]'(by simp at h; omega)).2.length (codeC (l[i]'(by simp at h; omega)).2) := by
  have := rowG (f := funC) (s := 2) (fun _ => rfl) l (i := i) (k := 1) (by simp at h; omega) (by omega)
  rw [show (l.flatMap funC) = funcsC l from rfl, List.getElem?_eq_getElem h] at this
  exact Option.some.inj this
@[simp] theorem thrsC_get0 (l : List (Int × Int)) {i : Nat} (h : i * 2 < (thrsC l).length) : (thrsC l)[i * 2] = iC (l[i]'(by simp at h; omega)).1 := by
  have := get0 (f := thrC) (s := 2) (fun _ => rfl) l (i := i) (by simp at h; omega) (by omega)
  rw [show (l.flatMap thrC) = thrsC l from rfl, List.getElem?_eq_getElem h] at this
  exact Option.some.inj this
@[simp] theorem thrsC_get1 (l : List (Int × Int)) {i : Nat} (h : i * 2 + 1 < (thrsC l).length) : (thrsC l)[i * 2 + 1] = iC (l[i]'(by simp at h; omega)).2 := by
  have := rowG (f := thrC) (s := 2) (fun _ => rfl) l (i := i) (k := 1) (by simp at h; omega) (by omega)
  rw [show (l.flatMap thrC) = thrsC l from rfl, List.getElem?_eq_getElem h] at this
  exact Option.some.inj this
@[simp] theorem strsC_get (l : List ByteArray) {i : Nat} (h : i < (strsC l).length) : (strsC l)[i] = sC (l[i]'(by simpa using h)) := by simp [strsC]
theorem codeC_gk (l : List I8) {i : Nat} (k : Nat) (hk : k < 8) (h : i * 8 + k < (codeC l).length) : (codeC l)[i * 8 + k] = (l[i]'(by simp at h; omega)).cvs[k]'(by rw [cvs_length]; exact hk) := by
  have h' : i < l.length := by simp at h; omega
  have := codeC_get l k h' hk
  rw [List.getElem?_eq_getElem h, List.getElem?_eq_getElem (by rw [cvs_length]; exact hk)] at this
  exact Option.some.inj this
@[simp] theorem codeC_at1 (l : List I8) {i : Nat} (h : i * 8 + 1 < (codeC l).length) : (codeC l)[i * 8 + 1] = iC (l[i]'(by simp at h; omega)).a := codeC_gk l 1 (by omega) h
@[simp] theorem codeC_at2 (l : List I8) {i : Nat} (h : i * 8 + 2 < (codeC l).length) : (codeC l)[i * 8 + 2] = iC (l[i]'(by simp at h; omega)).b := codeC_gk l 2 (by omega) h
@[simp] theorem codeC_at3 (l : List I8) {i : Nat} (h : i * 8 + 3 < (codeC l).length) : (codeC l)[i * 8 + 3] = iC (l[i]'(by simp at h; omega)).c := codeC_gk l 3 (by omega) h
@[simp] theorem codeC_at4 (l : List I8) {i : Nat} (h : i * 8 + 4 < (codeC l).length) : (codeC l)[i * 8 + 4] = iC (l[i]'(by simp at h; omega)).obj := codeC_gk l 4 (by omega) h
@[simp] theorem codeC_at6 (l : List I8) {i : Nat} (h : i * 8 + 6 < (codeC l).length) : (codeC l)[i * 8 + 6] = iC (l[i]'(by simp at h; omega)).fn := codeC_gk l 6 (by omega) h
@[simp] theorem codeC_at7 (l : List I8) {i : Nat} (h : i * 8 + 7 < (codeC l).length) : (codeC l)[i * 8 + 7] = iC (l[i]'(by simp at h; omega)).ord := codeC_gk l 7 (by omega) h
theorem strsC_take (l : List ByteArray) (n : Nat) : (strsC l).take n = strsC (l.take n) := by simp [strsC]
theorem strsC_append (a b : List ByteArray) : strsC (a ++ b) = strsC a ++ strsC b := by simp [strsC]
theorem strsC_one (s : ByteArray) : strsC [s] = [sC s] := rfl
@[simp] theorem strsC_isC (l : List ByteArray) : (strsC l).all CV.isC = true := by simp [strsC]

theorem strs_snoc {α : Type} (f : α → ByteArray) {l : List α} {k : Nat} (h : k < l.length) : strsC ((l.take (k + 1)).map f) = strsC ((l.take k).map f) ++ [sC (f l[k])] := by
  rw [List.take_succ_eq_append_getElem h, List.map_append, strsC_append]; rfl

/-! Lengths -/
structure Pg.Ok (p : Pg) : Prop where
  vars : p.vars.length ≤ maxLen
  mutexes : p.mutexes.length ≤ maxLen
  conds : p.conds.length ≤ maxLen
  funcs : p.funcs.length ≤ maxLen
  threads : p.threads.length ≤ maxLen
  code : ∀ f ∈ p.funcs, f.2.length ≤ maxLen
theorem Pg.ok {p : Pg} (h : p.av.lenOk) : p.Ok := by
  have h0 := h (.p (.sl p.vars.length (varsC p.vars))) (by simp)
  have h1 := h (.p (.sl p.mutexes.length (strsC p.mutexes))) (by simp)
  have h2 := h (.p (.sl p.conds.length (strsC p.conds))) (by simp)
  have h3 := h (.p (.sl p.funcs.length (funcsC p.funcs))) (by simp)
  have h4 := h (.p (.sl p.threads.length (thrsC p.threads))) (by simp)
  refine ⟨LenOk.len h0, LenOk.len h1, LenOk.len h2, LenOk.len h3, LenOk.len h4, fun f hf => ?_⟩
  have : LenOk (.sl f.2.length (codeC f.2)) := LenOk.mem h3 (by simp only [funcsC, List.mem_flatMap]; exact ⟨f, hf, by simp [funC]⟩)
  exact LenOk.len this

/-! Names -/
def letterB (c : UInt8) : Bool := (decide (97 ≤ c.toNat) && decide (c.toNat ≤ 122)) || (decide (65 ≤ c.toNat) && decide (c.toNat ≤ 90))
def restB (c : UInt8) : Bool := letterB c || c.toNat == 95 || (decide (48 ≤ c.toNat) && decide (c.toNat ≤ 57))
def nameOk (s : ByteArray) : Bool := decide (1 ≤ s.size) && decide (s.size ≤ 16) && (s.data.toList.head?.map letterB).getD false && s.data.toList.all restB
/-- Whether two strings are equal, as the program asks. -/
theorem eqS_comm (a b : ByteArray) : eqS a b = eqS b a := by
  unfold eqS
  rw [Bool.eq_iff_iff, beq_iff_eq, beq_iff_eq]; exact eq_comm
theorem eqS_iff (a b : ByteArray) : eqS a b = true ↔ a = b := by
  rw [eqS_data, beq_iff_eq]
  constructor
  · intro h
    have : a.data = b.data := by rw [← Array.toArray_toList (xs := a.data), h, Array.toArray_toList]
    cases a; cases b; simp at this; rw [this]
  · rintro rfl; rfl
/-- The first error of a list of names, and where. -/
def namesE (pre : List ByteArray) : List ByteArray → Int × Int
  | [] => (0, -1)
  | s :: r => if nameOk s = false then (6, pre.length) else if pre.any (fun t => eqS s t) then (7, pre.length) else namesE (pre ++ [s]) r
theorem namesE_take {l : List ByteArray} {k : Nat} (h : k < l.length) : namesE (l.take k) (l.drop k) = if nameOk l[k] = false then (6, (k : Int)) else if (l.take k).any (fun t => eqS l[k] t) then (7, (k : Int)) else namesE (l.take (k + 1)) (l.drop (k + 1)) := by
  rw [List.drop_eq_getElem_cons h, namesE, List.take_succ_eq_append_getElem h]
  have : ((l.take k).length : Int) = k := by simp; omega
  rw [this]
/-- Where a string stands. -/
def idxS (s : ByteArray) (k : Nat) : List ByteArray → Int
  | [] => -1
  | t :: r => if eqS s t then k else idxS s (k + 1) r
theorem idxS_any (s : ByteArray) : ∀ (l : List ByteArray) (k : Nat), decide (0 ≤ idxS s k l) = l.any (fun t => eqS s t)
  | [], k => by simp [idxS]
  | t :: r, k => by
    rw [List.any_cons, ← idxS_any s r (k + 1), idxS]
    by_cases h : eqS s t = true
    · rw [if_pos h, h]; simp
    · rw [if_neg h]; simp [h]

/-! Instructions in a program -/
def valueB (n : Int) : Bool := decide (-2147483648 ≤ n) && decide (n ≤ 2147483647)
def objN (p : Pg) (op : Int) : Int :=
  if op = 8 ∨ op = 9 ∨ op = 10 ∨ op = 11 ∨ op = 12 ∨ op = 14 then p.vars.length
  else if op = 15 ∨ op = 16 ∨ op = 17 then p.mutexes.length
  else if op = 18 ∨ op = 19 ∨ op = 20 then p.conds.length
  else if op = 21 then p.funcs.length else -1
def inE (p : Pg) (i : I8) (n : Nat) : Int :=
  if instE i ≠ 0 then instE i
  else if 0 ≤ objN p i.op ∧ (i.obj < 0 ∨ objN p i.op ≤ i.obj) then 11
  else if i.op = 18 ∧ (i.n < 0 ∨ p.mutexes.length ≤ i.n) then 11
  else if badT n i then 12 else 0
/-- The first error of a function's code, and where. -/
def cdE (p : Pg) (n : Nat) (k : Nat) : List I8 → Int × Int
  | [] => (0, -1)
  | i :: r => if inE p i n ≠ 0 then (inE p i n, k) else cdE p n (k + 1) r
/-- The first error of the functions. -/
def fnE (p : Pg) (k : Nat) : List (ByteArray × List I8) → Int × Int × Int
  | [] => (0, -1, -1)
  | f :: r => if 64 < f.2.length then (4, k, -1) else let e := cdE p f.2.length 0 f.2; if e.1 ≠ 0 then (e.1, k, e.2) else fnE p (k + 1) r
def thE (n : Nat) : List (Int × Int) → Int
  | [] => 0
  | t :: r => if t.1 < 0 ∨ (n : Int) ≤ t.1 then 11 else if valueB t.2 = false then 2 else thE n r
def thrE (p : Pg) : Int := if p.threads.length < 1 ∨ 8 < p.threads.length then 4 else thE p.funcs.length p.threads
def nmE (p : Pg) : Int × Int × Int :=
  let a := namesE [] (p.vars.map (·.1))
  let b := namesE [] p.mutexes
  let c := namesE [] p.conds
  let d := namesE [] (p.funcs.map (·.1))
  if a.1 ≠ 0 then (a.1, -1, -1) else if b.1 ≠ 0 then (b.1, -1, -1) else if c.1 ≠ 0 then (c.1, -1, -1) else (d.1, d.2, -1)
def obE (p : Pg) : Int := if 8 < p.vars.length ∨ 4 < p.mutexes.length ∨ 4 < p.conds.length ∨ 8 < p.funcs.length then 4 else if p.vars.all (fun v => valueB v.2) then 0 else 2
/-- THE FIRST ERROR OF A PROGRAM, and where. -/
def pgE (p : Pg) : Int × Int × Int :=
  if (nmE p).1 ≠ 0 then nmE p else if obE p ≠ 0 then (obE p, -1, -1) else if (fnE p 0 p.funcs).1 ≠ 0 then fnE p 0 p.funcs else (thrE p, -1, -1)
end Go.Dr
end
section
set_option linter.all false
namespace Go.Proofs
open Go.Fw Go.Dr
set_option maxRecDepth 100000

theorem at_letter (c : UInt8) : At Tryd.prog 125 [iV .u8 (c.toNat : Int)] (bV (letterB c)) := by
  refine at_code mixed Tryd.func125 (by kernel_rfl) rfl (by kernel_rfl) (by kernel_rfl) rfl fun Q hQ => ?_
  repeat (first | simp | with_reducible refine And.intro (by omega) ?_ | with_reducible refine gsel_pure (by with_unfolding_all rfl) _ (fun hg => by (try simp at hg); simp [hg]; rfl) ?_ | with_reducible refine dsel_pure (by with_unfolding_all rfl) _ (fun hg => by (try simp at hg); simp [hg]; rfl) ?_ | with_reducible refine awp_draw (by kernel_rfl) (by decide +kernel) ?_)
  refine hQ _ _ (ret2 (by simp [retAV, resAV]; rfl) (by simp; rfl) ?_)
  simp only [letterB, andB, orB, ltI]
  congr 4
  rw [Bool.eq_iff_iff]; simp; omega
theorem at_pvalue (n : Int) : At Tryd.prog 113 [iV .i64 n] (bV (valueB n)) := by
  refine at_code mixed Tryd.func113 (by kernel_rfl) rfl (by kernel_rfl) (by kernel_rfl) rfl fun Q hQ => ?_
  repeat (first | simp | with_reducible refine And.intro (by omega) ?_ | with_reducible refine gsel_pure (by with_unfolding_all rfl) _ (fun hg => by (try simp at hg); simp [hg]; rfl) ?_ | with_reducible refine dsel_pure (by with_unfolding_all rfl) _ (fun hg => by (try simp at hg); simp [hg]; rfl) ?_ | with_reducible refine awp_draw (by kernel_rfl) (by decide +kernel) ?_)
  refine hQ _ _ (ret2 (by simp [retAV, resAV]; rfl) (by simp; rfl) ?_)
  simp only [valueB, andB, ltI]
  congr 4
  rw [Bool.eq_iff_iff]; simp
theorem at_rvalue (n : Int) : At Tryd.prog 93 [iV .i64 n] (bV (valueB n)) := by
  refine at_code mixed Tryd.func93 (by kernel_rfl) rfl (by kernel_rfl) (by kernel_rfl) rfl fun Q hQ => ?_
  repeat (first | simp | with_reducible refine And.intro (by omega) ?_ | with_reducible refine gsel_pure (by with_unfolding_all rfl) _ (fun hg => by (try simp at hg); simp [hg]; rfl) ?_ | with_reducible refine dsel_pure (by with_unfolding_all rfl) _ (fun hg => by (try simp at hg); simp [hg]; rfl) ?_ | with_reducible refine awp_draw (by kernel_rfl) (by decide +kernel) ?_)
  refine hQ _ _ (ret2 (by simp [retAV, resAV]; rfl) (by simp; rfl) ?_)
  simp only [valueB, andB, ltI]
  congr 4
  rw [Bool.eq_iff_iff]; simp
theorem at_index (l : List ByteArray) (s : ByteArray) : At Tryd.prog 126 [strsA l, sV s] (iV .i64 (idxS s 0 l)) := by
  refine at_bound (by kernel_rfl) fun hb => ?_
  have hl : l.length ≤ maxLen := LenOk.len (hb (strsA l) (by simp))
  refine at_code mixed Tryd.func126 (by kernel_rfl) rfl (by kernel_rfl) (by kernel_rfl) rfl fun Q hQ => ?_
  repeat (first | simp | with_reducible refine And.intro (by omega) ?_ | with_reducible refine gsel_pure (by with_unfolding_all rfl) _ (fun hg => by (try simp at hg); simp [hg]; rfl) ?_ | with_reducible refine dsel_pure (by with_unfolding_all rfl) _ (fun hg => by (try simp at hg); simp [hg]; rfl) ?_ | with_reducible refine awp_draw (by kernel_rfl) (by decide +kernel) ?_)
  refine awp_loop (fun s' => ∃ k : Nat, k ≤ l.length ∧ idxS s 0 l = idxS s k (l.drop k) ∧ s'.env 8 = iV .i64 k ∧ s'.env 0 = strsA l ∧ s'.env 1 = sV s ∧ s'.env 7 = iV .i64 l.length) (fun s => l.length - (s.num 8).toNat) _ (Weak.refl _) ⟨0, by omega, by simp, by simp, by simp, by simp, by simp⟩ fun s' hs L hL => ?_
  obtain ⟨k, hk, hall, h8, h0, h1, h7⟩ := hs
  repeat (first | simp [h8, h0, h1, h7] | with_reducible refine And.intro (by omega) ?_ | with_reducible refine gsel_pure (by with_unfolding_all rfl) _ (fun hg => by (try simp at hg); simp [hg, h8, h0, h1, h7]; rfl) ?_ | with_reducible refine dsel_pure (by with_unfolding_all rfl) _ (fun hg => by (try simp at hg); simp [hg, h8, h0, h1, h7]; rfl) ?_ | with_reducible refine awp_draw (by kernel_rfl) (by decide +kernel) ?_)
  (with_reducible refine condK_intro (fun h => ?_) (fun h => ?_)) <;> (try simp only [h])
  · simp [ltI] at h
    have hlt := h
    have ew := wrap_succ hlt hl
    repeat (first | simp [h8, h0, h1, h7, hlt] | with_reducible refine And.intro (by omega) ?_ | with_reducible refine gsel_pure (by with_unfolding_all rfl) _ (fun hg => by (try simp at hg); simp [hg, h8, h0, h1, h7, hlt]; rfl) ?_ | with_reducible refine dsel_pure (by with_unfolding_all rfl) _ (fun hg => by (try simp at hg); simp [hg, h8, h0, h1, h7, hlt]; rfl) ?_ | with_reducible refine awp_draw (by kernel_rfl) (by decide +kernel) ?_)
    rw [List.drop_eq_getElem_cons hlt, idxS] at hall
    (with_reducible refine condK_intro (fun h => ?_) (fun h => ?_)) <;> (try simp only [h])
    · repeat (first | simp [h8, h0, h1, h7] | with_reducible refine And.intro (by omega) ?_ | with_reducible refine gsel_pure (by with_unfolding_all rfl) _ (fun hg => by (try simp at hg); simp [hg, h8, h0, h1, h7]; rfl) ?_ | with_reducible refine dsel_pure (by with_unfolding_all rfl) _ (fun hg => by (try simp at hg); simp [hg, h8, h0, h1, h7]; rfl) ?_ | with_reducible refine awp_draw (by kernel_rfl) (by decide +kernel) ?_)
      refine hQ _ _ (ret2 (by simp [retAV, resAV]; rfl) (by simp; rfl) ?_)
      rw [hall, if_pos h]
    · repeat (first | simp [h8, h0, h1, h7, ew] | with_reducible refine And.intro (by omega) ?_ | with_reducible refine gsel_pure (by with_unfolding_all rfl) _ (fun hg => by (try simp at hg); simp [hg, h8, h0, h1, h7, ew]; rfl) ?_ | with_reducible refine dsel_pure (by with_unfolding_all rfl) _ (fun hg => by (try simp at hg); simp [hg, h8, h0, h1, h7, ew]; rfl) ?_ | with_reducible refine awp_draw (by kernel_rfl) (by decide +kernel) ?_)
      refine hL _ ⟨⟨k + 1, hlt, by rw [hall, if_neg (by rw [h]; simp)], by simp, by simp [h0], by simp [h1], by simp [h7]⟩, ?_⟩
      simp [St.num, h8]; omega
  · simp [ltI] at h
    have : k = l.length := by omega
    subst this
    repeat (first | simp | with_reducible refine And.intro (by omega) ?_ | with_reducible refine gsel_pure (by with_unfolding_all rfl) _ (fun hg => by (try simp at hg); simp [hg]; rfl) ?_ | with_reducible refine dsel_pure (by with_unfolding_all rfl) _ (fun hg => by (try simp at hg); simp [hg]; rfl) ?_ | with_reducible refine awp_draw (by kernel_rfl) (by decide +kernel) ?_)
    refine hQ _ _ (ret2 (by simp [retAV, resAV]; rfl) (by simp; rfl) ?_)
    rw [hall]; simp [idxS]
theorem at_contains (l : List ByteArray) (s : ByteArray) : At Tryd.prog 122 [strsA l, sV s] (bV (l.any (fun t => eqS s t))) := by
  refine at_code mixed Tryd.func122 (by kernel_rfl) rfl (by kernel_rfl) (by kernel_rfl) rfl fun Q hQ => ?_
  repeat (first | simp | with_reducible refine And.intro (by omega) ?_ | with_reducible refine gsel_pure (by with_unfolding_all rfl) _ (fun hg => by (try simp at hg); simp [hg]; rfl) ?_ | with_reducible refine dsel_pure (by with_unfolding_all rfl) _ (fun hg => by (try simp at hg); simp [hg]; rfl) ?_ | with_reducible refine awp_draw (by kernel_rfl) (by decide +kernel) ?_)
  refine gop_call (at_index l s) (by simp) (by simp) (by simp) ?_
  repeat (first | simp | with_reducible refine And.intro (by omega) ?_ | with_reducible refine gsel_pure (by with_unfolding_all rfl) _ (fun hg => by (try simp at hg); simp [hg]; rfl) ?_ | with_reducible refine dsel_pure (by with_unfolding_all rfl) _ (fun hg => by (try simp at hg); simp [hg]; rfl) ?_ | with_reducible refine awp_draw (by kernel_rfl) (by decide +kernel) ?_)
  refine hQ _ _ (ret2 (by simp [retAV, resAV]; rfl) (by simp; rfl) ?_)
  have := idxS_any s l 0
  simp only [ltI, ← this]
  congr 4
  rw [Bool.eq_iff_iff]; simp
theorem str_len (s : ByteArray) : s.size = s.data.toList.length := by rw [Array.length_toList]; rfl
theorem str_at (s : ByteArray) (k : Nat) : s[k]? = s.data.toList[k]? := by
  by_cases h : k < s.size
  · rw [getElem?_pos s k h, List.getElem?_eq_getElem (by rw [← str_len]; exact h)]; rfl
  · rw [getElem?_neg s k h, List.getElem?_eq_none (by rw [← str_len]; omega)]
theorem str_getL {s : ByteArray} {k : Nat} (h : k < s.size) : s[k]? = some (s.data.toList[k]'(by rw [← str_len]; exact h)) := by rw [str_at, List.getElem?_eq_getElem]
/-- A name is looked through. -/
theorem nameOk_iff {s : ByteArray} (h1 : 1 ≤ s.size) (h2 : s.size ≤ 16) (h3 : letterB (s.data.toList[0]'(by rw [← str_len]; omega)) = true) : nameOk s = s.data.toList.all restB := by
  have : s.data.toList.head?.map letterB = some true := by rw [List.head?_eq_getElem?, List.getElem?_eq_getElem (by rw [← str_len]; omega), Option.map_some, h3]
  unfold nameOk
  rw [this]
  simp [h1, h2]
theorem nameOk_len {s : ByteArray} (h : ¬ (1 ≤ s.size ∧ s.size ≤ 16)) : nameOk s = false := by
  unfold nameOk
  by_cases h1 : 1 ≤ s.size
  · have : ¬ s.size ≤ 16 := fun h2 => h ⟨h1, h2⟩
    simp [this]
  · simp [h1]
theorem nameOk_head {s : ByteArray} (h1 : 0 < s.data.toList.length) (h3 : letterB s.data.toList[0] = false) : nameOk s = false := by
  have : s.data.toList.head?.map letterB = some false := by rw [List.head?_eq_getElem?, List.getElem?_eq_getElem h1, Option.map_some, h3]
  unfold nameOk
  rw [this]; simp
theorem all_fail {l : List UInt8} {k : Nat} (h : k < l.length) (hr : restB l[k] = false) : l.all restB = false := by
  rw [List.all_eq_false]; exact ⟨l[k], List.getElem_mem h, by simp [hr]⟩
theorem restB_eq (c : UInt8) : restB c = !(andB (andB (!letterB c) (!eqI (c.toNat : Int) 95)) (orB (ltI (c.toNat : Int) 48) (ltI 57 (c.toNat : Int)))) := by
  unfold restB
  rw [Bool.eq_iff_iff]
  cases letterB c <;> simp [andB, orB, eqI, ltI] <;> omega
theorem at_validName (s : ByteArray) : At Tryd.prog 121 [sV s] (bV (nameOk s)) := by
  refine at_code mixed Tryd.func121 (by kernel_rfl) rfl (by kernel_rfl) (by kernel_rfl) rfl fun Q hQ => ?_
  by_cases h0 : 1 ≤ s.size ∧ s.size ≤ 16
  · obtain ⟨h1, h16⟩ := h0
    have hpos : 0 < s.data.toList.length := by rw [← str_len]; omega
    have e1 : ltI (s.size : Int) 1 = false := by simp [ltI]; omega
    have e2 : ltI 16 (s.size : Int) = false := by simp [ltI]; omega
    have e3 := str_getL (s := s) (k := 0) (by omega)
    repeat (first | simp [e1, e2, e3] | with_reducible refine And.intro (by omega) ?_ | with_reducible refine gsel_pure (by with_unfolding_all rfl) _ (fun hg => by (try simp at hg); simp [hg, e1, e2, e3]; rfl) ?_ | with_reducible refine dsel_pure (by with_unfolding_all rfl) _ (fun hg => by (try simp at hg); simp [hg, e1, e2, e3]; rfl) ?_ | with_reducible refine awp_draw (by kernel_rfl) (by decide +kernel) ?_)
    refine gop_call (at_letter s.data.toList[0]) (by simp) (by simp) (by simp) ?_
    repeat (first | simp [e1, e2, e3] | with_reducible refine And.intro (by omega) ?_ | with_reducible refine gsel_pure (by with_unfolding_all rfl) _ (fun hg => by (try simp at hg); simp [hg, e1, e2, e3]; rfl) ?_ | with_reducible refine dsel_pure (by with_unfolding_all rfl) _ (fun hg => by (try simp at hg); simp [hg, e1, e2, e3]; rfl) ?_ | with_reducible refine awp_draw (by kernel_rfl) (by decide +kernel) ?_)
    (with_reducible refine condK_intro (fun h => ?_) (fun h => ?_)) <;> (try simp only [h])
    · repeat (first | simp | with_reducible refine And.intro (by omega) ?_ | with_reducible refine gsel_pure (by with_unfolding_all rfl) _ (fun hg => by (try simp at hg); simp [hg]; rfl) ?_ | with_reducible refine dsel_pure (by with_unfolding_all rfl) _ (fun hg => by (try simp at hg); simp [hg]; rfl) ?_ | with_reducible refine awp_draw (by kernel_rfl) (by decide +kernel) ?_)
      refine hQ _ _ (ret2 (by simp [retAV, resAV]; rfl) (by simp; rfl) ?_)
      rw [nameOk_head hpos (by simpa using h)]
    · have hlt := nameOk_iff h1 h16 (by simpa using h)
      repeat (first | simp | with_reducible refine And.intro (by omega) ?_ | with_reducible refine gsel_pure (by with_unfolding_all rfl) _ (fun hg => by (try simp at hg); simp [hg]; rfl) ?_ | with_reducible refine dsel_pure (by with_unfolding_all rfl) _ (fun hg => by (try simp at hg); simp [hg]; rfl) ?_ | with_reducible refine awp_draw (by kernel_rfl) (by decide +kernel) ?_)
      refine awp_loop (fun s' => ∃ k : Nat, k ≤ s.size ∧ (∀ j, (h : j < s.data.toList.length) → j < k → restB s.data.toList[j] = true) ∧ s'.env 20 = iV .i64 k ∧ s'.env 0 = sV s ∧ s'.env 19 = iV .i64 s.size) (fun s' => s.size - (s'.num 20).toNat) _ (Weak.refl _) ⟨0, by omega, by simp, by simp, by simp, by simp⟩ fun s' hs L hL => ?_
      obtain ⟨k, hk, hall, h20, h0, h19⟩ := hs
      repeat (first | simp [h20, h0, h19] | with_reducible refine And.intro (by omega) ?_ | with_reducible refine gsel_pure (by with_unfolding_all rfl) _ (fun hg => by (try simp at hg); simp [hg, h20, h0, h19]; rfl) ?_ | with_reducible refine dsel_pure (by with_unfolding_all rfl) _ (fun hg => by (try simp at hg); simp [hg, h20, h0, h19]; rfl) ?_ | with_reducible refine awp_draw (by kernel_rfl) (by decide +kernel) ?_)
      (with_reducible refine condK_intro (fun h => ?_) (fun h => ?_)) <;> (try simp only [h])
      · simp [ltI] at h
        have hkl : k < s.data.toList.length := by rw [← str_len]; exact h
        have hks := h
        have ew := wrap_succ h (show s.size ≤ maxLen by unfold maxLen; omega)
        have e4 := str_getL h
        repeat (first | simp [h20, h0, h19, e4] | with_reducible refine And.intro (by omega) ?_ | with_reducible refine gsel_pure (by with_unfolding_all rfl) _ (fun hg => by (try simp at hg); simp [hg, h20, h0, h19, e4]; rfl) ?_ | with_reducible refine dsel_pure (by with_unfolding_all rfl) _ (fun hg => by (try simp at hg); simp [hg, h20, h0, h19, e4]; rfl) ?_ | with_reducible refine awp_draw (by kernel_rfl) (by decide +kernel) ?_)
        refine gop_call (at_letter s.data.toList[k]) (by simp [h20, h0, h19, e4]) (by simp) (by simp) ?_
        repeat (first | simp [h20, h0, h19, e4] | with_reducible refine And.intro (by omega) ?_ | with_reducible refine gsel_pure (by with_unfolding_all rfl) _ (fun hg => by (try simp at hg); simp [hg, h20, h0, h19, e4]; rfl) ?_ | with_reducible refine dsel_pure (by with_unfolding_all rfl) _ (fun hg => by (try simp at hg); simp [hg, h20, h0, h19, e4]; rfl) ?_ | with_reducible refine awp_draw (by kernel_rfl) (by decide +kernel) ?_)
        (with_reducible refine condK_intro (fun h => ?_) (fun h => ?_)) <;> (try simp only [h])
        · repeat (first | simp | with_reducible refine And.intro (by omega) ?_ | with_reducible refine gsel_pure (by with_unfolding_all rfl) _ (fun hg => by (try simp at hg); simp [hg]; rfl) ?_ | with_reducible refine dsel_pure (by with_unfolding_all rfl) _ (fun hg => by (try simp at hg); simp [hg]; rfl) ?_ | with_reducible refine awp_draw (by kernel_rfl) (by decide +kernel) ?_)
          refine hQ _ _ (ret2 (by simp [retAV, resAV]; rfl) (by simp; rfl) ?_)
          rw [hlt, all_fail hkl (by rw [restB_eq, Bool.not_eq_false']; simpa using h)]
        · repeat (first | simp [h20, h0, h19, ew] | with_reducible refine And.intro (by omega) ?_ | with_reducible refine gsel_pure (by with_unfolding_all rfl) _ (fun hg => by (try simp at hg); simp [hg, h20, h0, h19, ew]; rfl) ?_ | with_reducible refine dsel_pure (by with_unfolding_all rfl) _ (fun hg => by (try simp at hg); simp [hg, h20, h0, h19, ew]; rfl) ?_ | with_reducible refine awp_draw (by kernel_rfl) (by decide +kernel) ?_)
          refine hL _ ⟨⟨k + 1, hks, fun j hj hjk => ?_, by simp, by simp [h0], by simp [h19]⟩, ?_⟩
          · by_cases e : j = k
            · subst e; rw [restB_eq, Bool.not_eq_true']; simpa using h
            · exact hall j hj (by omega)
          · simp [St.num, h20]; omega
      · simp [ltI] at h
        repeat (first | simp | with_reducible refine And.intro (by omega) ?_ | with_reducible refine gsel_pure (by with_unfolding_all rfl) _ (fun hg => by (try simp at hg); simp [hg]; rfl) ?_ | with_reducible refine dsel_pure (by with_unfolding_all rfl) _ (fun hg => by (try simp at hg); simp [hg]; rfl) ?_ | with_reducible refine awp_draw (by kernel_rfl) (by decide +kernel) ?_)
        refine hQ _ _ (ret2 (by simp [retAV, resAV]; rfl) (by simp; rfl) ?_)
        rw [hlt]
        congr 4
        symm
        rw [List.all_eq_true]
        intro x hx
        obtain ⟨j, hj, rfl⟩ := List.getElem_of_mem hx
        exact hall j hj (by rw [← str_len] at hj; omega)
  · have hn := nameOk_len h0
    by_cases h1 : 1 ≤ s.size
    · have e1 : ltI (s.size : Int) 1 = false := by simp [ltI]; omega
      have e2 : ltI 16 (s.size : Int) = true := by simp [ltI]; omega
      repeat (first | simp [e1, e2] | with_reducible refine And.intro (by omega) ?_ | with_reducible refine gsel_pure (by with_unfolding_all rfl) _ (fun hg => by (try simp at hg); simp [hg, e1, e2]; rfl) ?_ | with_reducible refine dsel_pure (by with_unfolding_all rfl) _ (fun hg => by (try simp at hg); simp [hg, e1, e2]; rfl) ?_ | with_reducible refine awp_draw (by kernel_rfl) (by decide +kernel) ?_)
      refine hQ _ _ (ret2 (by simp [retAV, resAV]; rfl) (by simp; rfl) ?_)
      rw [hn]
    · have e1 : ltI (s.size : Int) 1 = true := by simp [ltI]; omega
      repeat (first | simp [e1] | with_reducible refine And.intro (by omega) ?_ | with_reducible refine gsel_pure (by with_unfolding_all rfl) _ (fun hg => by (try simp at hg); simp [hg, e1]; rfl) ?_ | with_reducible refine dsel_pure (by with_unfolding_all rfl) _ (fun hg => by (try simp at hg); simp [hg, e1]; rfl) ?_ | with_reducible refine awp_draw (by kernel_rfl) (by decide +kernel) ?_)
      refine hQ _ _ (ret2 (by simp [retAV, resAV]; rfl) (by simp; rfl) ?_)
      rw [hn]
end Go.Proofs
end
section
set_option linter.all false
namespace Go.Dr
open Go.Fw

/-- Where the first function that is too long stands. -/
def longI (k : Nat) : List (ByteArray × List I8) → Int
  | [] => -1
  | f :: r => if 64 < f.2.length then k else longI (k + 1) r
/-- The instructions of a function, then those of a program, with their places. -/
def cdT (f k : Nat) : List I8 → List (Nat × Nat × I8)
  | [] => []
  | i :: r => (f, k, i) :: cdT f (k + 1) r
def insT (k : Nat) : List (ByteArray × List I8) → List (Nat × Nat × I8)
  | [] => []
  | f :: r => cdT k 0 f.2 ++ insT (k + 1) r
def plEV (x : Nat × Nat × I8) : List EV := [.agg [iC x.1, iC x.2.1], .agg x.2.2.cvs]
def insX (p : Pg) : List (List EV) := (insT 0 p.funcs).map plEV
theorem insX_len (p : Pg) : ∀ x ∈ insX p, x.length = 2 := by
  intro x hx
  simp only [insX, List.mem_map] at hx
  obtain ⟨y, _, rfl⟩ := hx; rfl
theorem cdT_mem {f : Nat} : ∀ {l : List I8} {k : Nat} {x : Nat × Nat × I8}, x ∈ cdT f k l → x.1 = f
  | [], k, x, h => by simp [cdT] at h
  | i :: r, k, x, h => by
    simp only [cdT, List.mem_cons] at h
    rcases h with rfl | h
    · rfl
    · exact cdT_mem h
theorem insT_mem : ∀ {l : List (ByteArray × List I8)} {k : Nat} {x : Nat × Nat × I8}, x ∈ insT k l → k ≤ x.1 ∧ x.1 < k + l.length
  | [], k, x, h => by simp [insT] at h
  | f :: r, k, x, h => by
    simp only [insT, List.mem_append] at h
    rcases h with h | h
    · rw [cdT_mem h]; simp
    · have := insT_mem h; simp; omega
/-- The check of the instructions one after the other. -/
def ckL (p : Pg) (long : Int) : List (Nat × Nat × I8) → Int × Int × Int
  | [] => if 0 ≤ long then (4, long, -1) else (0, -1, -1)
  | (f, k, i) :: r => if (f : Int) = long then (if 0 ≤ long then (4, long, -1) else (0, -1, -1)) else if inE p i (p.funcs.getD f default).2.length ≠ 0 then (inE p i (p.funcs.getD f default).2.length, f, k) else ckL p long r
theorem ckL_cdT (p : Pg) (long : Int) (f n : Nat) (hn : (p.funcs.getD f default).2.length = n) (hl : (f : Int) ≠ long) (rest : List (Nat × Nat × I8)) : ∀ (l : List I8) (k : Nat), ckL p long (cdT f k l ++ rest) = let e := cdE p n k l; if e.1 ≠ 0 then (e.1, (f : Int), e.2) else ckL p long rest
  | [], k => by simp [cdT, cdE]
  | i :: r, k => by
    simp only [cdT, List.cons_append, ckL, if_neg hl, hn, cdE]
    split
    · rename_i h; simp [h]
    · exact ckL_cdT p long f n hn hl rest r (k + 1)
theorem longI_ge : ∀ (l : List (ByteArray × List I8)) (k : Nat), longI k l = -1 ∨ (k : Int) ≤ longI k l
  | [], k => .inl rfl
  | f :: r, k => by
    unfold longI
    split
    · exact .inr (Int.le_refl _)
    · rcases longI_ge r (k + 1) with h | h
      · exact .inl h
      · exact .inr (by omega)
theorem ckL_insT (p : Pg) : ∀ (l : List (ByteArray × List I8)) (k : Nat), p.funcs.drop k = l → ckL p (longI k l) (insT k l) = fnE p k l
  | [], k, _ => by simp [longI, insT, ckL, fnE]
  | f :: r, k, h => by
    have hk : (p.funcs.getD k default) = f := by
      rw [List.getD_eq_getElem?_getD]
      have : (p.funcs.drop k)[0]? = some f := by rw [h]; rfl
      rw [List.getElem?_drop] at this
      simp at this; rw [this]; rfl
    have hr : p.funcs.drop (k + 1) = r := by
      rw [← List.drop_drop, h]; rfl
    unfold longI insT fnE
    by_cases h64 : 64 < f.2.length
    · rw [if_pos h64, if_pos h64]
      cases hf : f.2 with
      | nil => rw [hf] at h64; simp at h64
      | cons i t => simp [cdT, ckL]
    · rw [if_neg h64, if_neg h64, ckL_cdT p _ k f.2.length (by rw [hk]) ?_]
      · rw [ckL_insT p r (k + 1) hr]
      · rcases longI_ge r (k + 1) with h | h <;> omega
theorem thE_drop {n : Nat} {l : List (Int × Int)} {k : Nat} (h : k < l.length) : thE n (l.drop k) = if l[k].1 < 0 ∨ (n : Int) ≤ l[k].1 then 11 else if valueB l[k].2 = false then 2 else thE n (l.drop (k + 1)) := by
  rw [List.drop_eq_getElem_cons h, thE]
theorem longI_drop {l : List (ByteArray × List I8)} {k : Nat} (h : k < l.length) : longI k (l.drop k) = if 64 < l[k].2.length then (k : Int) else longI (k + 1) (l.drop (k + 1)) := by
  rw [List.drop_eq_getElem_cons h, longI]
theorem insT_drop {l : List (ByteArray × List I8)} {k : Nat} (h : k < l.length) : insT k (l.drop k) = cdT k 0 l[k].2 ++ insT (k + 1) (l.drop (k + 1)) := by
  rw [List.drop_eq_getElem_cons h, insT]
theorem cdT_drop {f : Nat} {l : List I8} {k : Nat} (h : k < l.length) : cdT f k (l.drop k) = (f, k, l[k]) :: cdT f (k + 1) (l.drop (k + 1)) := by
  rw [List.drop_eq_getElem_cons h, cdT]
theorem cdE_drop {p : Pg} {n : Nat} {l : List I8} {k : Nat} (h : k < l.length) : cdE p n k (l.drop k) = if inE p l[k] n ≠ 0 then (inE p l[k] n, (k : Int)) else cdE p n (k + 1) (l.drop (k + 1)) := by
  rw [List.drop_eq_getElem_cons h, cdE]
theorem fnE_drop {p : Pg} {l : List (ByteArray × List I8)} {k : Nat} (h : k < l.length) : fnE p k (l.drop k) = if 64 < l[k].2.length then (4, (k : Int), -1) else if (cdE p l[k].2.length 0 l[k].2).1 ≠ 0 then ((cdE p l[k].2.length 0 l[k].2).1, (k : Int), (cdE p l[k].2.length 0 l[k].2).2) else fnE p (k + 1) (l.drop (k + 1)) := by
  rw [List.drop_eq_getElem_cons h, fnE]
end Go.Dr
end
section
set_option linter.all false
namespace Go.Dr
open Go.Fw

def tgtB (l : List I8) (n : Int) : Bool := l.any fun i => (i.op == 4 || i.op == 5) && i.n == n
theorem any_drop {α : Type} {p : α → Bool} {l : List α} {k : Nat} (h : k < l.length) : (l.drop k).any p = (p l[k] || (l.drop (k + 1)).any p) := by rw [List.drop_eq_getElem_cons h, List.any_cons]
theorem tgtB_drop {l : List I8} {n : Int} {k : Nat} (h : k < l.length) : tgtB (l.drop k) n = ((l[k].op == 4 || l[k].op == 5) && l[k].n == n || tgtB (l.drop (k + 1)) n) := any_drop h
/-- The condition under which a loop is left. -/
def condF (f : Int) : Int := if f = 7 then 8 else if f = 8 then 7 else if f = 9 then 10 else 9
def shB (a b c : I8) (n : Int) : Bool := a.op == 8 && b.op == 3 && c.op == 5 && c.b == b.a && c.n == n
def teB (b : I8) (v o : Int) : Bool := ((b.b == v) != (b.c == v)) && o != b.a && ((b.fn == 7 || b.fn == 8) || b.c == v && (b.fn == 9 || b.fn == 10))
def otherI (a b : I8) : Int := if b.c = a.a then b.b else b.c
def spinAt (l : List I8) (n : Nat) : Bool := match l[n]?, l[n + 1]?, l[n + 2]? with
  | some a, some b, some c => shB a b c n && teB b a.a (otherI a b) && !tgtB l (n + 1) && !tgtB l (n + 2)
  | _, _, _ => false
def awI (a b : I8) : I8 := ⟨14, a.a, otherI a b, 0, a.obj, 0, condF b.fn, a.ord⟩
def spinL (l : List I8) : List Nat := (List.range (l.length - 2)).filter (spinAt l)
def repI (l : List I8) (n : Nat) : I8 := awI (l.getD n default) (l.getD (n + 1) default)
def spFn (k : Nat) (l : List I8) (m : Nat) : List (Nat × Nat × I8) := ((List.range m).filter (spinAt l)).map fun n => (k, n, repI l n)
def spAll (p : Pg) (m : Nat) : List (Nat × Nat × I8) := (List.range m).flatMap fun k => spFn k (p.funcs.getD k default).2 ((p.funcs.getD k default).2.length - 2)
def spC (x : Nat × Nat × I8) : List CV := [iC x.1, iC x.2.1] ++ x.2.2.cvs
def spsC (l : List (Nat × Nat × I8)) : List CV := l.flatMap spC
theorem spFn_skip (k : Nat) {l : List I8} {m : Nat} (h : spinAt l m = false) : spFn k l (m + 1) = spFn k l m := by simp [spFn, List.range_succ, List.filter_append, h]
theorem spFn_take (k : Nat) {l : List I8} {m : Nat} (h : spinAt l m = true) : spFn k l (m + 1) = spFn k l m ++ [(k, m, repI l m)] := by simp [spFn, List.range_succ, List.filter_append, h]
theorem spsC_append (a b : List (Nat × Nat × I8)) : spsC (a ++ b) = spsC a ++ spsC b := by simp [spsC]
theorem spFn_len (k : Nat) (l : List I8) (m : Nat) : (spFn k l m).length ≤ m := by
  unfold spFn
  rw [List.length_map]
  exact Nat.le_trans (List.length_filter_le _ _) (by simp)
theorem spAll_succ0 (p : Pg) (k : Nat) : spAll p (k + 1) = spAll p k ++ spFn k (p.funcs.getD k default).2 ((p.funcs.getD k default).2.length - 2) := by simp [spAll, List.range_succ]
theorem spAll_succ {p : Pg} {k m : Nat} (h : k < p.funcs.length) (hm : m = p.funcs[k].2.length - 2) : spAll p (k + 1) = spAll p k ++ spFn k p.funcs[k].2 m := by
  rw [spAll_succ0, List.getD_eq_getElem?_getD, List.getElem?_eq_getElem h, hm]; rfl
theorem spAll_len {p : Pg} (hc : ∀ f ∈ p.funcs, f.2.length ≤ 1000) : ∀ k, (spAll p k).length ≤ k * 1000
  | 0 => by simp [spAll]
  | k + 1 => by
    have := spAll_len hc k
    rw [spAll_succ0, List.length_append]
    have h1 := spFn_len k (p.funcs.getD k default).2 ((p.funcs.getD k default).2.length - 2)
    have h2 : (p.funcs.getD k default).2.length ≤ 1000 := by
      rw [List.getD_eq_getElem?_getD]
      rcases Nat.lt_or_ge k p.funcs.length with h | h
      · rw [List.getElem?_eq_getElem h]; exact hc _ (List.getElem_mem h)
      · rw [List.getElem?_eq_none h]; show ([] : List I8).length ≤ 1000; simp
    omega
end Go.Dr
end
section
set_option linter.all false
namespace Go.Dr
open Go.Fw

def intsC (l : List Int) : List CV := l.map iC
@[simp] theorem intsC_length (l : List Int) : (intsC l).length = l.length := by simp [intsC]
@[simp] theorem intsC_get (l : List Int) {i : Nat} (h : i < (intsC l).length) : (intsC l)[i] = iC (l[i]'(by simpa using h)) := by simp [intsC]
@[simp] theorem intsC_get? (l : List Int) {i : Nat} (h : i < l.length) : (intsC l)[i]? = some (iC l[i]) := by simp [intsC, h]
theorem intsC_append (a b : List Int) : intsC (a ++ b) = intsC a ++ intsC b := by simp [intsC]
theorem intsC_take (a : List Int) (n : Nat) : (intsC a).take n = intsC (a.take n) := by simp [intsC]
theorem intsC_drop (a : List Int) (n : Nat) : (intsC a).drop n = intsC (a.drop n) := by simp [intsC]
@[simp] theorem intsC_nil : intsC [] = [] := rfl
@[simp] theorem intsC_cons (a : Int) (l : List Int) : intsC (a :: l) = iC a :: intsC l := rfl
@[simp] theorem intsC_isC (l : List Int) : (intsC l).all CV.isC = true := by simp [intsC]
abbrev intsA (l : List Int) : AV := .cell (.p (.sl l.length (intsC l)))
def natI (l : List Nat) : List Int := l.map Int.ofNat
@[simp] theorem natI_length (l : List Nat) : (natI l).length = l.length := by simp [natI]
@[simp] theorem natI_nil : natI [] = [] := rfl
@[simp] theorem natI_cons (a : Nat) (l : List Nat) : natI (a :: l) = (a : Int) :: natI l := rfl
theorem natI_append (a b : List Nat) : natI (a ++ b) = natI a ++ natI b := by simp [natI]

/-- A function without errors. -/
structure OkL (l : List I8) : Prop where
  len : l.length ≤ 64
  tgt : ∀ i, (h : i < l.length) → l[i].op = 4 ∨ l[i].op = 5 → 0 ≤ l[i].n ∧ l[i].n ≤ l.length
theorem codeE_ok {n : Nat} : ∀ {l : List I8}, codeE n l = 0 → ∀ i, (h : i < l.length) → badT n l[i] = false
  | [], _, i, h => by simp at h
  | x :: r, hc, i, h => by
    rw [codeE] at hc
    split at hc
    · rename_i h1; exact (h1 hc).elim
    · split at hc
      · cases hc
      · rename_i h2
        cases i with
        | zero => simpa using h2
        | succ i => simpa using codeE_ok hc i (by simpa using h)
theorem okL {l : List I8} (h : funcE l = 0) : OkL l := by
  unfold funcE at h
  split at h
  · cases h
  · refine ⟨by omega, fun i hi ho => ?_⟩
    have := codeE_ok h i hi
    simp only [badT] at this
    simp at this
    exact ⟨by have := this ho; omega, by have := this ho; omega⟩

/-- The successors of an instruction, in increasing order. -/
def sucs (l : List I8) (k : Nat) : List Nat := match l[k]? with
  | none => []
  | some i => if i.op = 4 then [i.n.toNat] else if i.op = 5 then (if i.n.toNat = k + 1 then [k + 1] else if i.n.toNat < k + 1 then [i.n.toNat, k + 1] else [k + 1, i.n.toNat]) else if i.op = 7 then [l.length] else [k + 1]
theorem sucs_le {l : List I8} (ok : OkL l) {k x : Nat} (h : x ∈ sucs l k) : x ≤ l.length := by
  unfold sucs at h
  split at h
  · simp at h
  · rename_i i hi
    have hk : k < l.length := (List.getElem?_eq_some_iff.1 hi).1
    have he : l[k] = i := by rw [List.getElem?_eq_getElem hk] at hi; exact Option.some.inj hi
    have ht := ok.tgt k hk
    rw [he] at ht
    split at h
    · rename_i h4; have := ht (.inl h4); simp at h; omega
    · split at h
      · rename_i h5; have := ht (.inr h5)
        split at h
        · simp at h; omega
        · split at h <;> simp at h <;> omega
      · split at h
        · simp at h; omega
        · simp at h; omega
theorem sucs_len (l : List I8) (k : Nat) : (sucs l k).length ≤ 2 := by
  unfold sucs
  split
  · simp
  · split
    · simp
    · split
      · split
        · simp
        · split <;> simp
      · split <;> simp
def evs (l : List Int) : List (List EV) := l.map fun x => [.cell (iC x)]
@[simp] theorem evs_nil : evs [] = [] := rfl
@[simp] theorem evs_cons (a : Int) (l : List Int) : evs (a :: l) = [.cell (iC a)] :: evs l := rfl
@[simp] theorem evs_length (l : List Int) : (evs l).length = l.length := by simp [evs]
theorem intsC_takeS {l : List Int} {k : Nat} (h : k < l.length) : intsC (l.take (k + 1)) = intsC (l.take k) ++ [iC l[k]] := by rw [List.take_succ_eq_append_getElem h, intsC_append]; rfl
theorem natI_takeS {l : List Nat} {k : Nat} (h : k < l.length) : natI (l.take (k + 1)) = natI (l.take k) ++ [(l[k] : Int)] := by rw [List.take_succ_eq_append_getElem h, natI_append]; rfl
theorem evs_get {l : List Int} {k : Nat} {x : List EV} (h : (evs l)[k]? = some x) : ∃ hk : k < l.length, x = [.cell (iC l[k])] := by
  unfold evs at h
  rw [List.getElem?_map] at h
  rcases Nat.lt_or_ge k l.length with hk | hk
  · rw [List.getElem?_eq_getElem hk] at h
    exact ⟨hk, by simpa using h.symm⟩
  · rw [List.getElem?_eq_none hk] at h; cases h

/-! Sets, as maps to true. -/
def cstM (s : List Int) : List MV := s.map fun _ => .v (bC true)
def cstC (s : List Int) : List CV := s.map fun _ => bC true
def addK (s : List Int) (x : Int) : List Int := if x ∈ s then s else s ++ [x]
@[simp] theorem posK_addK (s : List Int) (x : Int) : posK (addK s x) = (posK s && decide (0 ≤ x)) := by
  unfold addK posK
  split
  · rename_i h
    cases hs : s.all fun k => decide (0 ≤ k)
    · rfl
    · simpa using (List.all_eq_true.1 hs x h)
  · simp
@[simp] theorem negK_addK (s : List Int) (x : Int) : negK (addK s x) = (negK s && decide (x < 0)) := by
  unfold addK negK
  split
  · rename_i h
    cases hs : s.all fun k => decide (k < 0)
    · rfl
    · simpa using (List.all_eq_true.1 hs x h)
  · simp
@[simp] theorem posK_append (a b : List Int) : posK (a ++ b) = (posK a && posK b) := by unfold posK; rw [List.all_append]
@[simp] theorem posK_one (k : Int) : posK [k] = decide (0 ≤ k) := by simp [posK]
@[simp] theorem posK_natI (s : List Nat) : posK (natI s) = true := by
  unfold posK natI
  rw [List.all_eq_true]
  intro x hx
  obtain ⟨y, _, rfl⟩ := List.mem_map.1 hx
  simp
theorem mfind_out : ∀ {s : List Int} {x : Int}, x ∉ s → mfind s x = none
  | [], x, _ => rfl
  | k :: s, x, h => by
    simp only [List.mem_cons, not_or] at h
    rw [mfind, if_neg (fun e => h.1 e.symm), mfind_out h.2]; rfl
theorem mfind_in : ∀ {s : List Int} {x : Int}, x ∈ s → ∃ i, mfind s x = some i ∧ i < s.length
  | k :: s, x, h => by
    rw [mfind]
    by_cases hk : k = x
    · rw [if_pos hk]; exact ⟨0, rfl, by simp⟩
    · rw [if_neg hk]
      rcases List.mem_cons.1 h with e | h
      · exact (hk e.symm).elim
      · obtain ⟨i, h1, h2⟩ := mfind_in h
        exact ⟨i + 1, by rw [h1]; rfl, by simpa using h2⟩
theorem mget_in {α : Type} {s : List Int} {x : Int} (c : α) (h : x ∈ s) : mget s (s.map fun _ => c) x = some c := by
  obtain ⟨i, h1, h2⟩ := mfind_in h
  unfold mget; rw [h1]; simp [h2]
theorem mget_out {α : Type} {s : List Int} {x : Int} (vs : List α) (h : x ∉ s) : mget s vs x = none := by unfold mget; rw [mfind_out h]; rfl
theorem mgetM_in {s : List Int} {x : Int} (h : x ∈ s) : mget s (cstM s) x = some (.v (bC true)) := mget_in _ h
theorem mgetC_in {s : List Int} {x : Int} (h : x ∈ s) : mget s (cstC s) x = some (bC true) := mget_in _ h
@[simp] theorem mputK_eq (s : List Int) (x : Int) : mputK s x = addK s x := by
  unfold mputK addK
  by_cases h : x ∈ s
  · obtain ⟨i, h1, _⟩ := mfind_in h
    rw [h1, if_pos h]; rfl
  · rw [mfind_out h, if_neg h]; rfl
theorem mputV_cst {α : Type} (s : List Int) (x : Int) (c : α) : mputV s (s.map fun _ => c) x c = (addK s x).map fun _ => c := by
  unfold mputV addK
  by_cases h : x ∈ s
  · obtain ⟨i, h1, h2⟩ := mfind_in h
    rw [h1, if_pos h]
    apply List.ext_getElem
    · simp
    · intro j h1 h2
      rw [List.getElem_set]
      split <;> simp
  · rw [mfind_out h, if_neg h]; simp
@[simp] theorem mputV_eq (s : List Int) (x : Int) : mputV s (cstM s) x (.v (bC true)) = cstM (addK s x) := mputV_cst s x _
@[simp] theorem cstM_poison (s : List Int) (F : Nat → Bool) : (cstM s).map (·.poison F) = cstM s := by simp [cstM]
@[simp] theorem cstM_retire (s : List Int) (F : Nat → Bool) : (cstM s).map (·.retire F) = cstM s := by simp [cstM]
@[simp] theorem cstM_pure (s : List Int) : (cstM s).map MV.pure = cstM s := by simp [cstM]
@[simp] theorem cstM_upd (s : List Int) (f : Nat) (ks : List Int) (vs : List MV) : (cstM s).map (·.updM f ks vs) = cstM s := by simp [cstM]
@[simp] theorem cstM_labs (s : List Int) : (cstM s).flatMap MV.labs = [] := by simp [cstM, List.flatMap_map]
@[simp] theorem mvCVs_cst (s : List Int) : mvCVs (cstM s) = some (cstC s) := by
  unfold cstM cstC
  have := mvCVs_v (s.map fun _ => bC true)
  rw [List.map_map] at this
  exact this
@[simp] theorem relab_set (f : Nat) (s : List Int) : (AC.mown f s (cstM s)).relab [] = .p (.mp s (cstC s)) := by
  simp [AC.relab]
@[simp] theorem cstM_nil : cstM [] = [] := rfl
theorem mem_natI {s : List Nat} {x : Nat} : (x : Int) ∈ natI s ↔ x ∈ s := by
  unfold natI
  rw [List.mem_map]
  constructor
  · rintro ⟨y, hy, e⟩
    have : y = x := by have h : (y : Int) = x := e; omega
    exact this ▸ hy
  · exact fun h => ⟨x, h, rfl⟩
def addN (s : List Nat) (x : Nat) : List Nat := if x ∈ s then s else s ++ [x]
theorem addK_natI (s : List Nat) (x : Nat) : addK (natI s) x = natI (addN s x) := by
  unfold addK addN
  by_cases h : x ∈ s
  · rw [if_pos h, if_pos (mem_natI.2 h)]
  · rw [if_neg h, if_neg (fun e => h (mem_natI.1 e)), natI_append]; rfl

/-! Lists without repetitions. -/
theorem nodup_len : ∀ {n : Nat} {l : List Nat}, l.Nodup → (∀ x ∈ l, x < n) → l.length ≤ n
  | 0, l, _, h => by
    cases l with
    | nil => simp
    | cons x l => exact absurd (h x (by simp)) (by omega)
  | n + 1, l, hn, h => by
    by_cases hm : n ∈ l
    · have h1 : (l.erase n).length ≤ n := nodup_len (hn.erase n) fun x hx => by
        have h2 := h x (List.mem_of_mem_erase hx)
        have h3 : x ≠ n := fun e => by rw [e] at hx; exact (List.Nodup.mem_erase_iff hn).1 hx |>.1 rfl
        omega
      rw [List.length_erase_of_mem hm] at h1
      omega
    · have := nodup_len hn fun x hx => by
        have h2 := h x hx
        have h3 : x ≠ n := fun e => hm (e ▸ hx)
        show x < n
        omega
      omega

/-! What is visited. -/
def pushV (n : Nat) (w : Int) (st : List Nat × List Nat) (k : Nat) : List Nat × List Nat := if k < n ∧ (k : Int) ≠ w ∧ k ∉ st.1 then (st.1 ++ [k], st.2 ++ [k]) else st
def pushL (l : List I8) (w : Int) (seen todo : List Nat) (i m : Nat) : List Nat × List Nat := ((sucs l i).take m).foldl (pushV l.length w) (seen, todo)
def visitF (l : List I8) (w : Int) : Nat → List Nat → List Nat → List Nat
  | 0, seen, _ => seen
  | f + 1, seen, todo => match todo.getLast? with
    | none => seen
    | some i => visitF l w f (pushL l w seen todo.dropLast i (sucs l i).length).1 (pushL l w seen todo.dropLast i (sucs l i).length).2
def visitL (l : List I8) (w : Int) : List Nat := if l.length = 0 ∨ w = 0 then [] else visitF l w (2 * l.length + 2) [0] [0]
structure VOk (n : Nat) (st : List Nat × List Nat) : Prop where
  nodup : st.1.Nodup
  seen : ∀ x ∈ st.1, x < n
  todo : ∀ x ∈ st.2, x < n
  len : st.2.length ≤ st.1.length
def vms (n : Nat) (st : List Nat × List Nat) : Nat := 2 * (n - st.1.length) + st.2.length
theorem push_ok {n : Nat} {w : Int} {st : List Nat × List Nat} {k : Nat} (h : VOk n st) : VOk n (pushV n w st k) ∧ vms n (pushV n w st k) ≤ vms n st := by
  unfold pushV
  split
  · rename_i hc
    have h' : VOk n (st.1 ++ [k], st.2 ++ [k]) := by
      refine ⟨?_, fun x hx => ?_, fun x hx => ?_, by have := h.len; simp; omega⟩
      · simp only
        rw [List.nodup_append]
        exact ⟨h.nodup, by simp, fun a ha b hb => by simp at hb; subst hb; rintro rfl; exact hc.2.2 ha⟩
      · simp at hx; rcases hx with hx | rfl; exact h.seen x hx; exact hc.1
      · simp at hx; rcases hx with hx | rfl; exact h.todo x hx; exact hc.1
    refine ⟨h', ?_⟩
    have := nodup_len h'.nodup h'.seen
    simp at this
    unfold vms
    simp
    omega
  · exact ⟨h, Nat.le_refl _⟩
theorem pushL_succ {l : List I8} {w : Int} {seen todo : List Nat} {i m : Nat} (h : m < (sucs l i).length) : pushL l w seen todo i (m + 1) = pushV l.length w (pushL l w seen todo i m) (sucs l i)[m] := by
  unfold pushL
  rw [List.take_succ_eq_append_getElem h, List.foldl_append]; rfl
theorem pushL_ok {l : List I8} (w : Int) {seen todo : List Nat} (i : Nat) (h : VOk l.length (seen, todo)) : ∀ m, m ≤ (sucs l i).length → VOk l.length (pushL l w seen todo i m) ∧ vms l.length (pushL l w seen todo i m) ≤ vms l.length (seen, todo)
  | 0, _ => ⟨h, Nat.le_refl _⟩
  | m + 1, hm => by
    obtain ⟨h1, h2⟩ := pushL_ok w i h m (by omega)
    rw [pushL_succ hm]
    have h3 := push_ok (w := w) (k := (sucs l i)[m]) h1
    exact ⟨h3.1, Nat.le_trans h3.2 h2⟩
/-- The elements of a set below n, in increasing order. -/
def sortL (ks : List Int) (n : Nat) : List Nat := (List.range n).filter fun (i : Nat) => decide ((i : Int) ∈ ks)
theorem sortL_in {ks : List Int} {n : Nat} (h : (n : Int) ∈ ks) : sortL ks (n + 1) = sortL ks n ++ [n] := by simp [sortL, List.range_succ, List.filter_append, h]
theorem sortL_out {ks : List Int} {n : Nat} (h : (n : Int) ∉ ks) : sortL ks (n + 1) = sortL ks n := by simp [sortL, List.range_succ, List.filter_append, h]
theorem sortL_len (ks : List Int) (n : Nat) : (sortL ks n).length ≤ n := by
  unfold sortL
  exact Nat.le_trans (List.length_filter_le _ _) (by simp)
/-- The leaders found among the first k instructions, as they are met. -/
def leadK (l : List I8) : Nat → List Int
  | 0 => [0]
  | k + 1 => match l[k]? with
    | none => leadK l k
    | some i => if i.op = 4 ∨ i.op = 5 then addK (addK (leadK l k) i.n) (k + 1) else if i.op = 7 then addK (leadK l k) (k + 1) else leadK l k
theorem leadK_succ {l : List I8} {k : Nat} (h : k < l.length) : leadK l (k + 1) = if l[k].op = 4 ∨ l[k].op = 5 then addK (addK (leadK l k) l[k].n) (k + 1) else if l[k].op = 7 then addK (leadK l k) (k + 1) else leadK l k := by
  rw [leadK, List.getElem?_eq_getElem h]
theorem posK_leadK {l : List I8} (ok : OkL l) : ∀ k, k ≤ l.length → posK (leadK l k) = true
  | 0, _ => rfl
  | k + 1, h => by
    have ih := posK_leadK ok k (by omega)
    have ht := ok.tgt k (by omega)
    rw [leadK_succ (by omega)]
    split
    · rename_i hc
      have h1 : (0 : Int) ≤ (k : Int) + 1 := by omega
      simp [ih, (ht hc).1, h1]
    · split
      · have h1 : (0 : Int) ≤ (k : Int) + 1 := by omega
        simp [ih, h1]
      · exact ih
/-! What an instruction dominates. -/
def domK (l : List I8) (d m : Nat) : List Nat := (List.range m).filter fun i => decide (i ∈ visitL l (-1)) && !decide (i ∈ visitL l d)
def domD (l : List I8) (k : Nat) : List Nat := (List.range k).filter fun d => decide (d ∈ visitL l (-1))
def domC (l : List I8) (d : Nat) : CV := .mp (natI (domK l d l.length)) (cstC (natI (domK l d l.length)))
def domV (l : List I8) (k : Nat) : List CV := (domD l k).map (domC l)
theorem domK_in {l : List I8} {d m : Nat} (h1 : m ∈ visitL l (-1)) (h2 : m ∉ visitL l d) : domK l d (m + 1) = domK l d m ++ [m] := by simp [domK, List.range_succ, List.filter_append, h1, h2]
theorem domK_out {l : List I8} {d m : Nat} (h : ¬ (m ∈ visitL l (-1) ∧ m ∉ visitL l d)) : domK l d (m + 1) = domK l d m := by
  simp [domK, List.range_succ, List.filter_append]
  intro h1
  exact Classical.byContradiction fun h2 => h ⟨h1, h2⟩
theorem domK_lt {l : List I8} {d m x : Nat} (h : x ∈ domK l d m) : x < m := by simp [domK] at h; exact h.1
theorem domD_in {l : List I8} {k : Nat} (h : k ∈ visitL l (-1)) : domD l (k + 1) = domD l k ++ [k] := by simp [domD, List.range_succ, List.filter_append, h]
theorem domD_out {l : List I8} {k : Nat} (h : k ∉ visitL l (-1)) : domD l (k + 1) = domD l k := by simp [domD, List.range_succ, List.filter_append, h]
theorem domD_lt {l : List I8} {k x : Nat} (h : x ∈ domD l k) : x < k := by simp [domD] at h; exact h.1
theorem domK_addK {l : List I8} {d m : Nat} (h1 : m ∈ visitL l (-1)) (h2 : m ∉ visitL l d) : addK (natI (domK l d m)) m = natI (domK l d (m + 1)) := by
  rw [addK_natI, addN, if_neg (fun e => Nat.lt_irrefl _ (domK_lt e)), domK_in h1 h2]
theorem domD_out' {l : List I8} {k : Nat} : (k : Int) ∉ natI (domD l k) := fun e => Nat.lt_irrefl _ (domD_lt (mem_natI.1 e))
theorem addK_new {s : List Int} {x : Int} (h : x ∉ s) : addK s x = s ++ [x] := by unfold addK; rw [if_neg h]
theorem mputV_new {α : Type} {s : List Int} {x : Int} (vs : List α) (c : α) (h : x ∉ s) : mputV s vs x c = vs ++ [c] := by unfold mputV; rw [mfind_out h]
theorem mfind_app {s : List Int} {x : Int} (h : x ∉ s) : mfind (s ++ [x]) x = some s.length := by
  induction s with
  | nil => simp [mfind]
  | cons k s ih =>
    simp only [List.mem_cons, not_or] at h
    rw [List.cons_append, mfind, if_neg (fun e => h.1 e.symm), ih h.2]; rfl
theorem mget_app {α : Type} {s : List Int} {x : Int} {vs : List α} {c : α} (h : x ∉ s) (hl : vs.length = s.length) : mget (s ++ [x]) (vs ++ [c]) x = some c := by
  unfold mget
  rw [mfind_app h]
  simp [← hl]
theorem cstC_map (s : List Int) : (cstC s).map MV.v = cstM s := by simp [cstC, cstM]
theorem mv_pure_of {F : Nat → Bool} {x : MV} {c : CV} (h : x.retire F = .v c) : x.pure = .v c := by
  cases x with
  | v x => exact h
  | inner f ks vs =>
    simp only [MV.retire] at h
    split at h
    · exact h
    · cases h
  | bad => cases h
theorem mvs_pure_of {F : Nat → Bool} : ∀ {vs : List MV} {cs : List CV}, vs.map (·.retire F) = cs.map .v → vs.map MV.pure = cs.map .v
  | [], [], _ => rfl
  | [], c :: cs, h => by simp at h
  | x :: vs, [], h => by simp at h
  | x :: vs, c :: cs, h => by
    simp only [List.map_cons, List.cons.injEq] at h ⊢
    exact ⟨mv_pure_of h.1, mvs_pure_of h.2⟩
theorem relab_mown {f : Nat} {ks : List Int} {vs : List MV} {cs : List CV} (h : vs.map MV.pure = cs.map .v) : (AC.mown f ks vs).relab [] = .p (.mp ks cs) := by
  simp [AC.relab, h]
/-- Values of a map, pure but for maps of one family. -/
def LastIn (f : Nat) (vs : List MV) (cs : List CV) : Prop := ∀ G : MV → MV, (∀ c, G (.v c) = .v c) → (∀ ks vs, G (.inner f ks vs) = .v (.mp ks vs)) → vs.map G = cs.map .v
theorem LastIn.nil (f : Nat) : LastIn f [] [] := fun _ _ _ => rfl
theorem LastIn.snoc (f : Nat) (cs : List CV) (ks : List Int) (xs : List CV) : LastIn f (cs.map .v ++ [.inner f ks xs]) (cs ++ [.mp ks xs]) := by
  intro G h1 h2
  simp [h2]
  intro a _
  exact h1 a
theorem intsC_set (l : List Int) (i : Nat) (x : Int) : (intsC l).set i (iC x) = intsC (l.set i x) := by simp [intsC, List.map_set]
theorem repC_ints : ∀ n : Nat, repC n [iC 0] = intsC (List.replicate n 0)
  | 0 => rfl
  | n + 1 => by rw [repC, repC_ints n]; rfl
/-- Whether d dominates i. -/
def domB (l : List I8) (d i : Int) : Bool := decide (0 ≤ d ∧ d.toNat ∈ domD l l.length) && decide (0 ≤ i ∧ i.toNat ∈ domK l d.toNat l.length)
def domStep (dom : Int → Int → Bool) (i : Int) (b d : Int) : Int := if d ≠ i ∧ dom d i = true ∧ (b < 0 ∨ dom b d = true) then d else b
def idomF (dom : Int → Int → Bool) (i : Int) : Nat → Int
  | 0 => -1
  | m + 1 => domStep dom i (idomF dom i m) m
def idomL (dom : Int → Int → Bool) (n k : Nat) : List Int := (List.range k).map (fun (i : Nat) => idomF dom i n) ++ List.replicate (n - k) 0
theorem idomL_length {dom : Int → Int → Bool} {n k : Nat} (h : k ≤ n) : (idomL dom n k).length = n := by simp [idomL]; omega
theorem idomL_succ {dom : Int → Int → Bool} {n k : Nat} (h : k < n) : (idomL dom n k).set k (idomF dom k n) = idomL dom n (k + 1) := by
  unfold idomL
  have : List.replicate (n - k) (0 : Int) = 0 :: List.replicate (n - (k + 1)) 0 := by rw [← List.replicate_succ]; congr 1; omega
  rw [this, List.range_succ, List.map_append]
  rw [List.set_append_right _ _ (by simp)]
  simp
theorem idomF_lt {dom : Int → Int → Bool} {i : Int} : ∀ m, -1 ≤ idomF dom i m ∧ idomF dom i m < m
  | 0 => by simp [idomF]
  | m + 1 => by
    have := idomF_lt (dom := dom) (i := i) m
    rw [idomF]; unfold domStep
    split <;> omega
theorem mget_map {α : Type} (f : Nat → α) : ∀ {s : List Nat} {d : Nat}, d ∈ s → mget (natI s) (s.map f) d = some (f d)
  | k :: s, d, h => by
    unfold mget
    rw [natI_cons, mfind]
    by_cases hk : (k : Int) = d
    · have : k = d := by omega
      rw [if_pos hk, this]; rfl
    · rw [if_neg hk]
      have hd : d ∈ s := by
        rcases List.mem_cons.1 h with e | h
        · exact (hk (by rw [e])).elim
        · exact h
      have ih := mget_map f hd
      unfold mget at ih
      cases hm : mfind (natI s) d with
      | none => rw [hm] at ih; cases ih
      | some j => rw [hm] at ih; simpa using ih
theorem domB_nat (l : List I8) (d i : Nat) : domB l d i = (decide (d ∈ domD l l.length) && decide (i ∈ domK l d l.length)) := by simp [domB]

/-! The body of a loop. -/
def hitK (l : List I8) (h : Nat) (S : List Nat) (i k : Nat) : Bool := ((sucs l i).take k).any fun x => decide (x ≠ h) && decide (x ∈ S)
def growK (l : List I8) (h : Nat) (S : List Nat) (i k : Nat) : List Nat := if hitK l h S i k then S ++ [i] else S
def growI (l : List I8) (h : Nat) (S : List Nat) (i : Nat) : List Nat := if i ∈ visitL l (-1) ∧ i ∉ S then growK l h S i (sucs l i).length else S
def growP (l : List I8) (h : Nat) (S : List Nat) : Nat → List Nat
  | 0 => S
  | m + 1 => growI l h (growP l h S m) m
def bodyG (l : List I8) (h : Nat) : Nat → Bool → List Nat → List Nat
  | 0, _, S => S
  | F + 1, g, S => if g then bodyG l h F (decide ((growP l h S l.length).length ≠ S.length)) (growP l h S l.length) else S
def endsS (h : Nat) (ends : List Nat) (k : Nat) : List Nat := (ends.take k).foldl addN [h]
def bodyL (l : List I8) (h : Nat) (ends : List Nat) : List Nat := bodyG l h (2 * l.length + 2) true (endsS h ends ends.length)
structure SOk (n : Nat) (S : List Nat) : Prop where
  nodup : S.Nodup
  lt : ∀ x ∈ S, x < n
theorem SOk.add {n : Nat} {S : List Nat} (h : SOk n S) {i : Nat} (hi : i < n) (hn : i ∉ S) : SOk n (S ++ [i]) := by
  refine ⟨?_, fun x hx => ?_⟩
  · rw [List.nodup_append]
    exact ⟨h.nodup, by simp, fun a ha b hb => by simp at hb; subst hb; rintro rfl; exact hn ha⟩
  · simp at hx; rcases hx with hx | rfl; exact h.lt x hx; exact hi
theorem SOk.addN {n : Nat} {S : List Nat} (h : SOk n S) {i : Nat} (hi : i < n) : SOk n (addN S i) := by
  unfold Dr.addN
  split
  · exact h
  · rename_i hn; exact h.add hi hn
theorem endsS_succ {h : Nat} {ends : List Nat} {k : Nat} (hk : k < ends.length) : endsS h ends (k + 1) = addN (endsS h ends k) ends[k] := by
  unfold endsS
  rw [List.take_succ_eq_append_getElem hk, List.foldl_append]; rfl
theorem endsS_ok {n h : Nat} {ends : List Nat} (hh : h < n) (he : ∀ x ∈ ends, x < n) : ∀ k, k ≤ ends.length → SOk n (endsS h ends k)
  | 0, _ => ⟨by simp [endsS], by simp [endsS]; exact hh⟩
  | k + 1, hk => by
    rw [endsS_succ hk]
    exact (endsS_ok hh he k (by omega)).addN (he _ (List.getElem_mem _))
theorem growI_ok {l : List I8} {h : Nat} {S : List Nat} {i : Nat} (ho : SOk l.length S) (hi : i < l.length) : SOk l.length (growI l h S i) ∧ S.length ≤ (growI l h S i).length := by
  unfold growI growK
  split
  · rename_i hc
    split
    · exact ⟨ho.add hi hc.2, by simp⟩
    · exact ⟨ho, Nat.le_refl _⟩
  · exact ⟨ho, Nat.le_refl _⟩
theorem growP_ok {l : List I8} {h : Nat} {S : List Nat} (ho : SOk l.length S) : ∀ m, m ≤ l.length → SOk l.length (growP l h S m) ∧ S.length ≤ (growP l h S m).length
  | 0, _ => ⟨ho, Nat.le_refl _⟩
  | m + 1, hm => by
    obtain ⟨h1, h2⟩ := growP_ok ho m (by omega)
    obtain ⟨h3, h4⟩ := growI_ok (h := h) h1 (show m < l.length by omega)
    exact ⟨h3, Nat.le_trans h2 h4⟩
theorem hitK_succ {l : List I8} {h : Nat} {S : List Nat} {i k : Nat} (hk : k < (sucs l i).length) : hitK l h S i (k + 1) = (hitK l h S i k || (decide ((sucs l i)[k] ≠ h) && decide ((sucs l i)[k] ∈ S))) := by
  unfold hitK
  rw [List.take_succ_eq_append_getElem hk, List.any_append]; simp

/-! Loops. -/
theorem sucs_nodup (l : List I8) (k : Nat) : (sucs l k).Nodup := by
  unfold sucs
  split
  · simp
  · split
    · simp
    · split
      · split
        · simp
        · split
          · simp; omega
          · simp; omega
      · split <;> simp
def endsL (l : List I8) (dom : Int → Int → Bool) (h m : Nat) : List Nat := (List.range m).filter fun i => decide (h ∈ sucs l i) && dom h i
def endsK (l : List I8) (dom : Int → Int → Bool) (h i k : Nat) : List Nat := endsL l dom h i ++ if h ∈ (sucs l i).take k ∧ dom h i = true then [i] else []
theorem endsL_len (l : List I8) (dom : Int → Int → Bool) (h m : Nat) : (endsL l dom h m).length ≤ m := by
  unfold endsL
  exact Nat.le_trans (List.length_filter_le _ _) (by simp)
theorem endsL_lt {l : List I8} {dom : Int → Int → Bool} {h m x : Nat} (hx : x ∈ endsL l dom h m) : x < m := by simp [endsL] at hx; exact hx.1
theorem endsK_end (l : List I8) (dom : Int → Int → Bool) (h i : Nat) : endsK l dom h i (sucs l i).length = endsL l dom h (i + 1) := by
  unfold endsK endsL
  rw [List.range_succ, List.filter_append, List.take_of_length_le (Nat.le_refl _)]
  congr 1
  by_cases h1 : h ∈ sucs l i <;> by_cases h2 : dom h i = true <;> simp [h1, h2]
theorem endsK_hit {l : List I8} {dom : Int → Int → Bool} {h i k : Nat} (hk : k < (sucs l i).length) (he : (sucs l i)[k] = h) (hd : dom h i = true) : endsK l dom h i k = endsL l dom h i ∧ endsK l dom h i (k + 1) = endsL l dom h i ++ [i] := by
  have hn : h ∉ (sucs l i).take k := by
    intro hc
    obtain ⟨j, hj, hjh⟩ := List.getElem_of_mem hc
    have hjk : j < k := by simp at hj; omega
    rw [List.getElem_take] at hjh
    exact (List.pairwise_iff_getElem.1 (sucs_nodup l i)) j k (by omega) hk hjk (hjh.trans he.symm)
  unfold endsK
  rw [if_neg (fun h => hn h.1), if_pos ⟨by rw [List.take_succ_eq_append_getElem hk, he]; simp, hd⟩]
  exact ⟨by simp, rfl⟩
theorem endsK_miss {l : List I8} {dom : Int → Int → Bool} {h i k : Nat} (hk : k < (sucs l i).length) (hm : (sucs l i)[k] ≠ h ∨ dom h i = false) : endsK l dom h i (k + 1) = endsK l dom h i k := by
  unfold endsK
  congr 1
  rcases hm with hm | hm
  · have : h ∈ (sucs l i).take (k + 1) ↔ h ∈ (sucs l i).take k := by
      rw [List.take_succ_eq_append_getElem hk, List.mem_append]
      constructor
      · rintro (e | e)
        · exact e
        · simp only [List.mem_singleton] at e; exact absurd e.symm hm
      · exact .inl
    simp only [this]
  · simp [hm]
def loopT (h : Nat) (S : List Nat) (j : Nat) : List Nat := h :: (S.take j).filter (fun x => decide (x ≠ h))
theorem loopT_succ {h : Nat} {S : List Nat} {j : Nat} (hj : j < S.length) : loopT h S (j + 1) = loopT h S j ++ if S[j] = h then [] else [S[j]] := by
  unfold loopT
  rw [List.take_succ_eq_append_getElem hj, List.filter_append]
  by_cases e : S[j] = h <;> simp [e]
theorem loopT_len (h : Nat) (S : List Nat) (j : Nat) : (loopT h S j).length ≤ S.length + 1 := by
  unfold loopT
  have h1 : (List.filter (fun x => decide (x ≠ h)) (S.take j)).length ≤ (S.take j).length := List.length_filter_le _ _
  have h2 : (S.take j).length ≤ S.length := by rw [List.length_take]; omega
  rw [List.length_cons]
  omega
/-- The loop of a header. -/
def loopL (l : List I8) (h : Nat) : List Nat := loopT h (sortL (natI (bodyL l h (endsL l (domB l) h l.length))) l.length) l.length
def loopsL (l : List I8) : Nat → List (List Nat)
  | 0 => []
  | m + 1 => if endsL l (domB l) m l.length = [] then loopsL l m else loopsL l m ++ [loopL l m]
theorem loopsL_len (l : List I8) : ∀ m, (loopsL l m).length ≤ m
  | 0 => by simp [loopsL]
  | m + 1 => by
    have := loopsL_len l m
    rw [loopsL]; split
    · omega
    · simp; omega
def listsC (L : List (List Nat)) : List CV := L.map fun x => .sl x.length (intsC (natI x))
@[simp] theorem listsC_length (L : List (List Nat)) : (listsC L).length = L.length := by simp [listsC]
theorem listsC_append (A B : List (List Nat)) : listsC (A ++ B) = listsC A ++ listsC B := by simp [listsC]
end Go.Dr
end
section
set_option linter.all false
namespace Go.Proofs
open Go.Fw Go.Dr
set_option maxRecDepth 100000

theorem at_successors (name : ByteArray) (l : List I8) (k : Int) : At Tryd.prog 49 [fAV name l, iV .i64 k] (.cell (.p (.fn 74 [.bx [sC name, .sl l.length (codeC l)], .bx [iC k]]))) := by
  refine at_code mixed Tryd.func49 (by kernel_rfl) rfl (by kernel_rfl) (by kernel_rfl) rfl fun Q hQ => ?_
  repeat (first | simp | with_reducible refine And.intro (by omega) ?_ | with_reducible refine optK_if (by omega) ?_ | with_reducible refine optD_if (by omega) ?_ | simp (disch := omega) only [wrap_i64, if_pos, if_neg] | with_reducible refine gsel_pure (by with_unfolding_all rfl) _ (fun hg => by (try simp at hg); simp [hg]; rfl) ?_ | with_reducible refine dsel_pure (by with_unfolding_all rfl) _ (fun hg => by (try simp at hg); simp [hg]; rfl) ?_ | with_reducible refine awp_draw (by kernel_rfl) (by decide +kernel) ?_)
  refine hQ _ _ (ret2 (by simp [retAV, resAV]; rfl) (by simp; rfl) ?_)
  rfl
set_option maxHeartbeats 1000000 in
theorem seq_successors (name : ByteArray) (l : List I8) (ok : OkL l) (k : Nat) (hk : k < l.length) : SeqAt Tryd.prog 74 [.cell (.p (.bx [sC name, .sl l.length (codeC l)])), .cell (.p (.bx [iC k]))] (evs (natI (sucs l k))) := by
  refine seq_unbx (by simp; rfl) ?_
  have hlen := ok.len
  have ht := ok.tgt k hk
  have hs : sucs l k = if l[k].op = 4 then [l[k].n.toNat] else if l[k].op = 5 then (if l[k].n.toNat = k + 1 then [k + 1] else if l[k].n.toNat < k + 1 then [l[k].n.toNat, k + 1] else [k + 1, l[k].n.toNat]) else if l[k].op = 7 then [l.length] else [k + 1] := by
    unfold sucs; rw [List.getElem?_eq_getElem hk]
  by_cases h4 : l[k].op = 4
  · have h0 := (ht (.inl h4)).1
    have en : max l[k].n 0 = l[k].n := by omega
    have t4 : eqI l[k].op 4 = true := by simp [eqI, h4]
    have hs1 : sucs l k = [l[k].n.toNat] := by rw [hs, if_pos h4]
    rw [hs1]
    refine seq_code mixed Tryd.func74 (by kernel_rfl) rfl (by kernel_rfl) (by kernel_rfl) rfl fun ℓ Q hQ => ?_
    repeat (first | simp [hk, en, t4] | with_reducible refine And.intro (by omega) ?_ | with_reducible refine optK_if (by omega) ?_ | with_reducible refine optD_if (by omega) ?_ | simp (disch := omega) only [wrap_i64, if_pos, if_neg] | with_reducible refine gsel_pure (by with_unfolding_all rfl) _ (fun hg => by (try simp at hg); simp [hg, hk, en, t4]; rfl) ?_ | with_reducible refine dsel_pure (by with_unfolding_all rfl) _ (fun hg => by (try simp at hg); simp [hg, hk, en, t4]; rfl) ?_ | with_reducible refine awp_draw (by kernel_rfl) (by decide +kernel) ?_)
    refine ⟨?_, ?_⟩
    · repeat (first | simp [hk, en, t4] | with_reducible refine And.intro (by omega) ?_ | with_reducible refine optK_if (by omega) ?_ | with_reducible refine optD_if (by omega) ?_ | simp (disch := omega) only [wrap_i64, if_pos, if_neg] | with_reducible refine gsel_pure (by with_unfolding_all rfl) _ (fun hg => by (try simp at hg); simp [hg, hk, en, t4]; rfl) ?_ | with_reducible refine dsel_pure (by with_unfolding_all rfl) _ (fun hg => by (try simp at hg); simp [hg, hk, en, t4]; rfl) ?_ | with_reducible refine awp_draw (by kernel_rfl) (by decide +kernel) ?_)
      refine hQ _ _ (seqPost_end (.inl rfl) (by simp [retAV, resAV, en]; rfl) (by simp [en]; first | exact ⟨rfl, rfl⟩ | exact ⟨rfl, rfl, rfl⟩ | rfl) ?_)
      simp
    · repeat (first | simp [hk, en, t4] | with_reducible refine And.intro (by omega) ?_ | with_reducible refine optK_if (by omega) ?_ | with_reducible refine optD_if (by omega) ?_ | simp (disch := omega) only [wrap_i64, if_pos, if_neg] | with_reducible refine gsel_pure (by with_unfolding_all rfl) _ (fun hg => by (try simp at hg); simp [hg, hk, en, t4]; rfl) ?_ | with_reducible refine dsel_pure (by with_unfolding_all rfl) _ (fun hg => by (try simp at hg); simp [hg, hk, en, t4]; rfl) ?_ | with_reducible refine awp_draw (by kernel_rfl) (by decide +kernel) ?_)
      refine hQ _ _ (seqPost_end (.inl rfl) (by simp [retAV, resAV, en]; rfl) (by simp [en]; first | exact ⟨rfl, rfl⟩ | exact ⟨rfl, rfl, rfl⟩ | rfl) ?_)
      simp
  have e4 : eqI l[k].op 4 = false := by simp [eqI, h4]
  by_cases h5 : l[k].op = 5
  · have h0 := (ht (.inr h5)).1
    have h0' := (ht (.inr h5)).2
    have en : max l[k].n 0 = l[k].n := by omega
    have t5 : eqI l[k].op 5 = true := by simp [eqI, h5]
    rcases Int.lt_trichotomy l[k].n (k + 1) with hc | hc | hc
    · have c1 : ¬ ((k : Int) + 1 < l[k].n) := by omega
      have c2 : eqI l[k].n ((k : Int) + 1) = false := by simp [eqI]; omega
      have hs1 : sucs l k = [l[k].n.toNat, k + 1] := by rw [hs, if_neg h4, if_pos h5, if_neg (by omega), if_pos (by omega)]
      rw [hs1]
      refine seq_code mixed Tryd.func74 (by kernel_rfl) rfl (by kernel_rfl) (by kernel_rfl) rfl fun ℓ Q hQ => ?_
      repeat (first | simp [hk, en, e4, t5, hc, c1, c2] | with_reducible refine And.intro (by omega) ?_ | with_reducible refine optK_if (by omega) ?_ | with_reducible refine optD_if (by omega) ?_ | simp (disch := omega) only [wrap_i64, if_pos, if_neg] | with_reducible refine gsel_pure (by with_unfolding_all rfl) _ (fun hg => by (try simp at hg); simp [hg, hk, en, e4, t5, hc, c1, c2]; rfl) ?_ | with_reducible refine dsel_pure (by with_unfolding_all rfl) _ (fun hg => by (try simp at hg); simp [hg, hk, en, e4, t5, hc, c1, c2]; rfl) ?_ | with_reducible refine awp_draw (by kernel_rfl) (by decide +kernel) ?_)
      refine ⟨?_, ?_⟩
      · repeat (first | simp [hk, en, e4, t5, hc, c1, c2] | with_reducible refine And.intro (by omega) ?_ | with_reducible refine optK_if (by omega) ?_ | with_reducible refine optD_if (by omega) ?_ | simp (disch := omega) only [wrap_i64, if_pos, if_neg] | with_reducible refine gsel_pure (by with_unfolding_all rfl) _ (fun hg => by (try simp at hg); simp [hg, hk, en, e4, t5, hc, c1, c2]; rfl) ?_ | with_reducible refine dsel_pure (by with_unfolding_all rfl) _ (fun hg => by (try simp at hg); simp [hg, hk, en, e4, t5, hc, c1, c2]; rfl) ?_ | with_reducible refine awp_draw (by kernel_rfl) (by decide +kernel) ?_)
        refine ⟨?_, ?_⟩
        · repeat (first | simp [hk, en, e4, t5, hc, c1, c2] | with_reducible refine And.intro (by omega) ?_ | with_reducible refine optK_if (by omega) ?_ | with_reducible refine optD_if (by omega) ?_ | simp (disch := omega) only [wrap_i64, if_pos, if_neg] | with_reducible refine gsel_pure (by with_unfolding_all rfl) _ (fun hg => by (try simp at hg); simp [hg, hk, en, e4, t5, hc, c1, c2]; rfl) ?_ | with_reducible refine dsel_pure (by with_unfolding_all rfl) _ (fun hg => by (try simp at hg); simp [hg, hk, en, e4, t5, hc, c1, c2]; rfl) ?_ | with_reducible refine awp_draw (by kernel_rfl) (by decide +kernel) ?_)
          refine hQ _ _ (seqPost_end (.inl rfl) (by simp [retAV, resAV, en]; rfl) (by simp [en]; first | exact ⟨rfl, rfl⟩ | exact ⟨rfl, rfl, rfl⟩ | rfl) ?_)
          simp
        · repeat (first | simp [hk, en, e4, t5, hc, c1, c2] | with_reducible refine And.intro (by omega) ?_ | with_reducible refine optK_if (by omega) ?_ | with_reducible refine optD_if (by omega) ?_ | simp (disch := omega) only [wrap_i64, if_pos, if_neg] | with_reducible refine gsel_pure (by with_unfolding_all rfl) _ (fun hg => by (try simp at hg); simp [hg, hk, en, e4, t5, hc, c1, c2]; rfl) ?_ | with_reducible refine dsel_pure (by with_unfolding_all rfl) _ (fun hg => by (try simp at hg); simp [hg, hk, en, e4, t5, hc, c1, c2]; rfl) ?_ | with_reducible refine awp_draw (by kernel_rfl) (by decide +kernel) ?_)
          refine hQ _ _ (seqPost_end (.inl rfl) (by simp [retAV, resAV, en]; rfl) (by simp [en]; first | exact ⟨rfl, rfl⟩ | exact ⟨rfl, rfl, rfl⟩ | rfl) ?_)
          simp
      · repeat (first | simp [hk, en, e4, t5, hc, c1, c2] | with_reducible refine And.intro (by omega) ?_ | with_reducible refine optK_if (by omega) ?_ | with_reducible refine optD_if (by omega) ?_ | simp (disch := omega) only [wrap_i64, if_pos, if_neg] | with_reducible refine gsel_pure (by with_unfolding_all rfl) _ (fun hg => by (try simp at hg); simp [hg, hk, en, e4, t5, hc, c1, c2]; rfl) ?_ | with_reducible refine dsel_pure (by with_unfolding_all rfl) _ (fun hg => by (try simp at hg); simp [hg, hk, en, e4, t5, hc, c1, c2]; rfl) ?_ | with_reducible refine awp_draw (by kernel_rfl) (by decide +kernel) ?_)
        refine hQ _ _ (seqPost_end (.inl rfl) (by simp [retAV, resAV, en]; rfl) (by simp [en]; first | exact ⟨rfl, rfl⟩ | exact ⟨rfl, rfl, rfl⟩ | rfl) ?_)
        simp
    · have c2 : eqI ((k : Int) + 1) ((k : Int) + 1) = true := by simp [eqI]
      have hs1 : sucs l k = [k + 1] := by rw [hs, if_neg h4, if_pos h5, if_pos (by omega)]
      rw [hs1]
      refine seq_code mixed Tryd.func74 (by kernel_rfl) rfl (by kernel_rfl) (by kernel_rfl) rfl fun ℓ Q hQ => ?_
      repeat (first | simp [hk, en, e4, t5, hc, c2] | with_reducible refine And.intro (by omega) ?_ | with_reducible refine optK_if (by omega) ?_ | with_reducible refine optD_if (by omega) ?_ | simp (disch := omega) only [wrap_i64, if_pos, if_neg] | with_reducible refine gsel_pure (by with_unfolding_all rfl) _ (fun hg => by (try simp at hg); simp [hg, hk, en, e4, t5, hc, c2]; rfl) ?_ | with_reducible refine dsel_pure (by with_unfolding_all rfl) _ (fun hg => by (try simp at hg); simp [hg, hk, en, e4, t5, hc, c2]; rfl) ?_ | with_reducible refine awp_draw (by kernel_rfl) (by decide +kernel) ?_)
      refine ⟨?_, ?_⟩
      · repeat (first | simp [hk, en, e4, t5, hc, c2] | with_reducible refine And.intro (by omega) ?_ | with_reducible refine optK_if (by omega) ?_ | with_reducible refine optD_if (by omega) ?_ | simp (disch := omega) only [wrap_i64, if_pos, if_neg] | with_reducible refine gsel_pure (by with_unfolding_all rfl) _ (fun hg => by (try simp at hg); simp [hg, hk, en, e4, t5, hc, c2]; rfl) ?_ | with_reducible refine dsel_pure (by with_unfolding_all rfl) _ (fun hg => by (try simp at hg); simp [hg, hk, en, e4, t5, hc, c2]; rfl) ?_ | with_reducible refine awp_draw (by kernel_rfl) (by decide +kernel) ?_)
        refine hQ _ _ (seqPost_end (.inl rfl) (by simp [retAV, resAV, en]; rfl) (by simp [en]; first | exact ⟨rfl, rfl⟩ | exact ⟨rfl, rfl, rfl⟩ | rfl) ?_)
        simp
      · repeat (first | simp [hk, en, e4, t5, hc, c2] | with_reducible refine And.intro (by omega) ?_ | with_reducible refine optK_if (by omega) ?_ | with_reducible refine optD_if (by omega) ?_ | simp (disch := omega) only [wrap_i64, if_pos, if_neg] | with_reducible refine gsel_pure (by with_unfolding_all rfl) _ (fun hg => by (try simp at hg); simp [hg, hk, en, e4, t5, hc, c2]; rfl) ?_ | with_reducible refine dsel_pure (by with_unfolding_all rfl) _ (fun hg => by (try simp at hg); simp [hg, hk, en, e4, t5, hc, c2]; rfl) ?_ | with_reducible refine awp_draw (by kernel_rfl) (by decide +kernel) ?_)
        refine hQ _ _ (seqPost_end (.inl rfl) (by simp [retAV, resAV, en]; rfl) (by simp [en]; first | exact ⟨rfl, rfl⟩ | exact ⟨rfl, rfl, rfl⟩ | rfl) ?_)
        simp
    · have c1 : ¬ (l[k].n < (k : Int) + 1) := by omega
      have c2 : eqI ((k : Int) + 1) l[k].n = false := by simp [eqI]; omega
      have hs1 : sucs l k = [k + 1, l[k].n.toNat] := by rw [hs, if_neg h4, if_pos h5, if_neg (by omega), if_neg (by omega)]
      rw [hs1]
      refine seq_code mixed Tryd.func74 (by kernel_rfl) rfl (by kernel_rfl) (by kernel_rfl) rfl fun ℓ Q hQ => ?_
      repeat (first | simp [hk, en, e4, t5, hc, c1, c2] | with_reducible refine And.intro (by omega) ?_ | with_reducible refine optK_if (by omega) ?_ | with_reducible refine optD_if (by omega) ?_ | simp (disch := omega) only [wrap_i64, if_pos, if_neg] | with_reducible refine gsel_pure (by with_unfolding_all rfl) _ (fun hg => by (try simp at hg); simp [hg, hk, en, e4, t5, hc, c1, c2]; rfl) ?_ | with_reducible refine dsel_pure (by with_unfolding_all rfl) _ (fun hg => by (try simp at hg); simp [hg, hk, en, e4, t5, hc, c1, c2]; rfl) ?_ | with_reducible refine awp_draw (by kernel_rfl) (by decide +kernel) ?_)
      refine ⟨?_, ?_⟩
      · repeat (first | simp [hk, en, e4, t5, hc, c1, c2] | with_reducible refine And.intro (by omega) ?_ | with_reducible refine optK_if (by omega) ?_ | with_reducible refine optD_if (by omega) ?_ | simp (disch := omega) only [wrap_i64, if_pos, if_neg] | with_reducible refine gsel_pure (by with_unfolding_all rfl) _ (fun hg => by (try simp at hg); simp [hg, hk, en, e4, t5, hc, c1, c2]; rfl) ?_ | with_reducible refine dsel_pure (by with_unfolding_all rfl) _ (fun hg => by (try simp at hg); simp [hg, hk, en, e4, t5, hc, c1, c2]; rfl) ?_ | with_reducible refine awp_draw (by kernel_rfl) (by decide +kernel) ?_)
        refine ⟨?_, ?_⟩
        · repeat (first | simp [hk, en, e4, t5, hc, c1, c2] | with_reducible refine And.intro (by omega) ?_ | with_reducible refine optK_if (by omega) ?_ | with_reducible refine optD_if (by omega) ?_ | simp (disch := omega) only [wrap_i64, if_pos, if_neg] | with_reducible refine gsel_pure (by with_unfolding_all rfl) _ (fun hg => by (try simp at hg); simp [hg, hk, en, e4, t5, hc, c1, c2]; rfl) ?_ | with_reducible refine dsel_pure (by with_unfolding_all rfl) _ (fun hg => by (try simp at hg); simp [hg, hk, en, e4, t5, hc, c1, c2]; rfl) ?_ | with_reducible refine awp_draw (by kernel_rfl) (by decide +kernel) ?_)
          refine hQ _ _ (seqPost_end (.inl rfl) (by simp [retAV, resAV, en]; rfl) (by simp [en]; first | exact ⟨rfl, rfl⟩ | exact ⟨rfl, rfl, rfl⟩ | rfl) ?_)
          simp
        · repeat (first | simp [hk, en, e4, t5, hc, c1, c2] | with_reducible refine And.intro (by omega) ?_ | with_reducible refine optK_if (by omega) ?_ | with_reducible refine optD_if (by omega) ?_ | simp (disch := omega) only [wrap_i64, if_pos, if_neg] | with_reducible refine gsel_pure (by with_unfolding_all rfl) _ (fun hg => by (try simp at hg); simp [hg, hk, en, e4, t5, hc, c1, c2]; rfl) ?_ | with_reducible refine dsel_pure (by with_unfolding_all rfl) _ (fun hg => by (try simp at hg); simp [hg, hk, en, e4, t5, hc, c1, c2]; rfl) ?_ | with_reducible refine awp_draw (by kernel_rfl) (by decide +kernel) ?_)
          refine hQ _ _ (seqPost_end (.inl rfl) (by simp [retAV, resAV, en]; rfl) (by simp [en]; first | exact ⟨rfl, rfl⟩ | exact ⟨rfl, rfl, rfl⟩ | rfl) ?_)
          simp
      · repeat (first | simp [hk, en, e4, t5, hc, c1, c2] | with_reducible refine And.intro (by omega) ?_ | with_reducible refine optK_if (by omega) ?_ | with_reducible refine optD_if (by omega) ?_ | simp (disch := omega) only [wrap_i64, if_pos, if_neg] | with_reducible refine gsel_pure (by with_unfolding_all rfl) _ (fun hg => by (try simp at hg); simp [hg, hk, en, e4, t5, hc, c1, c2]; rfl) ?_ | with_reducible refine dsel_pure (by with_unfolding_all rfl) _ (fun hg => by (try simp at hg); simp [hg, hk, en, e4, t5, hc, c1, c2]; rfl) ?_ | with_reducible refine awp_draw (by kernel_rfl) (by decide +kernel) ?_)
        refine hQ _ _ (seqPost_end (.inl rfl) (by simp [retAV, resAV, en]; rfl) (by simp [en]; first | exact ⟨rfl, rfl⟩ | exact ⟨rfl, rfl, rfl⟩ | rfl) ?_)
        simp
  have e5 : eqI l[k].op 5 = false := by simp [eqI, h5]
  by_cases h7 : l[k].op = 7
  · have t7 : eqI l[k].op 7 = true := by simp [eqI, h7]
    have hs1 : sucs l k = [l.length] := by rw [hs, if_neg h4, if_neg h5, if_pos h7]
    rw [hs1]
    refine seq_code mixed Tryd.func74 (by kernel_rfl) rfl (by kernel_rfl) (by kernel_rfl) rfl fun ℓ Q hQ => ?_
    repeat (first | simp [hk, e4, e5, t7] | with_reducible refine And.intro (by omega) ?_ | with_reducible refine optK_if (by omega) ?_ | with_reducible refine optD_if (by omega) ?_ | simp (disch := omega) only [wrap_i64, if_pos, if_neg] | with_reducible refine gsel_pure (by with_unfolding_all rfl) _ (fun hg => by (try simp at hg); simp [hg, hk, e4, e5, t7]; rfl) ?_ | with_reducible refine dsel_pure (by with_unfolding_all rfl) _ (fun hg => by (try simp at hg); simp [hg, hk, e4, e5, t7]; rfl) ?_ | with_reducible refine awp_draw (by kernel_rfl) (by decide +kernel) ?_)
    refine ⟨?_, ?_⟩
    · repeat (first | simp [hk, e4, e5, t7] | with_reducible refine And.intro (by omega) ?_ | with_reducible refine optK_if (by omega) ?_ | with_reducible refine optD_if (by omega) ?_ | simp (disch := omega) only [wrap_i64, if_pos, if_neg] | with_reducible refine gsel_pure (by with_unfolding_all rfl) _ (fun hg => by (try simp at hg); simp [hg, hk, e4, e5, t7]; rfl) ?_ | with_reducible refine dsel_pure (by with_unfolding_all rfl) _ (fun hg => by (try simp at hg); simp [hg, hk, e4, e5, t7]; rfl) ?_ | with_reducible refine awp_draw (by kernel_rfl) (by decide +kernel) ?_)
      refine hQ _ _ (seqPost_end (.inl rfl) (by simp [retAV, resAV]; rfl) (by simp; first | exact ⟨rfl, rfl⟩ | exact ⟨rfl, rfl, rfl⟩ | rfl) ?_)
      simp
    · repeat (first | simp [hk, e4, e5, t7] | with_reducible refine And.intro (by omega) ?_ | with_reducible refine optK_if (by omega) ?_ | with_reducible refine optD_if (by omega) ?_ | simp (disch := omega) only [wrap_i64, if_pos, if_neg] | with_reducible refine gsel_pure (by with_unfolding_all rfl) _ (fun hg => by (try simp at hg); simp [hg, hk, e4, e5, t7]; rfl) ?_ | with_reducible refine dsel_pure (by with_unfolding_all rfl) _ (fun hg => by (try simp at hg); simp [hg, hk, e4, e5, t7]; rfl) ?_ | with_reducible refine awp_draw (by kernel_rfl) (by decide +kernel) ?_)
      refine hQ _ _ (seqPost_end (.inl rfl) (by simp [retAV, resAV]; rfl) (by simp; first | exact ⟨rfl, rfl⟩ | exact ⟨rfl, rfl, rfl⟩ | rfl) ?_)
      simp
  · have e7 : eqI l[k].op 7 = false := by simp [eqI, h7]
    have hs1 : sucs l k = [k + 1] := by rw [hs, if_neg h4, if_neg h5, if_neg h7]
    rw [hs1]
    refine seq_code mixed Tryd.func74 (by kernel_rfl) rfl (by kernel_rfl) (by kernel_rfl) rfl fun ℓ Q hQ => ?_
    repeat (first | simp [hk, e4, e5, e7] | with_reducible refine And.intro (by omega) ?_ | with_reducible refine optK_if (by omega) ?_ | with_reducible refine optD_if (by omega) ?_ | simp (disch := omega) only [wrap_i64, if_pos, if_neg] | with_reducible refine gsel_pure (by with_unfolding_all rfl) _ (fun hg => by (try simp at hg); simp [hg, hk, e4, e5, e7]; rfl) ?_ | with_reducible refine dsel_pure (by with_unfolding_all rfl) _ (fun hg => by (try simp at hg); simp [hg, hk, e4, e5, e7]; rfl) ?_ | with_reducible refine awp_draw (by kernel_rfl) (by decide +kernel) ?_)
    refine ⟨?_, ?_⟩
    · repeat (first | simp [hk, e4, e5, e7] | with_reducible refine And.intro (by omega) ?_ | with_reducible refine optK_if (by omega) ?_ | with_reducible refine optD_if (by omega) ?_ | simp (disch := omega) only [wrap_i64, if_pos, if_neg] | with_reducible refine gsel_pure (by with_unfolding_all rfl) _ (fun hg => by (try simp at hg); simp [hg, hk, e4, e5, e7]; rfl) ?_ | with_reducible refine dsel_pure (by with_unfolding_all rfl) _ (fun hg => by (try simp at hg); simp [hg, hk, e4, e5, e7]; rfl) ?_ | with_reducible refine awp_draw (by kernel_rfl) (by decide +kernel) ?_)
      refine hQ _ _ (seqPost_end (.inl rfl) (by simp [retAV, resAV]; rfl) (by simp; first | exact ⟨rfl, rfl⟩ | exact ⟨rfl, rfl, rfl⟩ | rfl) ?_)
      simp
    · repeat (first | simp [hk, e4, e5, e7] | with_reducible refine And.intro (by omega) ?_ | with_reducible refine optK_if (by omega) ?_ | with_reducible refine optD_if (by omega) ?_ | simp (disch := omega) only [wrap_i64, if_pos, if_neg] | with_reducible refine gsel_pure (by with_unfolding_all rfl) _ (fun hg => by (try simp at hg); simp [hg, hk, e4, e5, e7]; rfl) ?_ | with_reducible refine dsel_pure (by with_unfolding_all rfl) _ (fun hg => by (try simp at hg); simp [hg, hk, e4, e5, e7]; rfl) ?_ | with_reducible refine awp_draw (by kernel_rfl) (by decide +kernel) ?_)
      refine hQ _ _ (seqPost_end (.inl rfl) (by simp [retAV, resAV]; rfl) (by simp; first | exact ⟨rfl, rfl⟩ | exact ⟨rfl, rfl, rfl⟩ | rfl) ?_)
      simp
theorem at_ints (a b : List Int) (ha : a.length ≤ 1000000) : At Tryd.prog 17 [intsA a, intsA b] (bV (decide (a = b))) := by
  refine at_code mixed Tryd.func17 (by kernel_rfl) rfl (by kernel_rfl) (by kernel_rfl) rfl fun Q hQ => ?_
  repeat (first | simp | with_reducible refine And.intro (by omega) ?_ | with_reducible refine optK_if (by omega) ?_ | with_reducible refine optD_if (by omega) ?_ | simp (disch := omega) only [wrap_i64, if_pos, if_neg] | with_reducible refine gsel_pure (by with_unfolding_all rfl) _ (fun hg => by (try simp at hg); simp [hg]; rfl) ?_ | with_reducible refine dsel_pure (by with_unfolding_all rfl) _ (fun hg => by (try simp at hg); simp [hg]; rfl) ?_ | with_reducible refine awp_draw (by kernel_rfl) (by decide +kernel) ?_)
  (with_reducible refine condK_intro (fun hl => ?_) (fun hl => ?_)) <;> (try simp only [hl]) <;> (try simp [andB, orB, eqI, ltI, Int.natCast_inj] at hl)
  · repeat (first | simp [hl] | with_reducible refine And.intro (by omega) ?_ | with_reducible refine optK_if (by omega) ?_ | with_reducible refine optD_if (by omega) ?_ | simp (disch := omega) only [wrap_i64, if_pos, if_neg] | with_reducible refine gsel_pure (by with_unfolding_all rfl) _ (fun hg => by (try simp at hg); simp [hg, hl]; rfl) ?_ | with_reducible refine dsel_pure (by with_unfolding_all rfl) _ (fun hg => by (try simp at hg); simp [hg, hl]; rfl) ?_ | with_reducible refine awp_draw (by kernel_rfl) (by decide +kernel) ?_)
    refine hQ _ _ (ret2 (by simp [retAV, resAV]; rfl) (by simp; rfl) ?_)
    have : a ≠ b := by rintro rfl; exact hl rfl
    simp [this]
  · repeat (first | simp [hl] | with_reducible refine And.intro (by omega) ?_ | with_reducible refine optK_if (by omega) ?_ | with_reducible refine optD_if (by omega) ?_ | simp (disch := omega) only [wrap_i64, if_pos, if_neg] | with_reducible refine gsel_pure (by with_unfolding_all rfl) _ (fun hg => by (try simp at hg); simp [hg, hl]; rfl) ?_ | with_reducible refine dsel_pure (by with_unfolding_all rfl) _ (fun hg => by (try simp at hg); simp [hg, hl]; rfl) ?_ | with_reducible refine awp_draw (by kernel_rfl) (by decide +kernel) ?_)
    refine awp_loopV (fun (k : Nat) (s : St) => (k ≤ a.length) ∧ (a.take k = b.take k) ∧ s.env 5 = iV .i64 k ∧ s.env 0 = intsA a ∧ s.env 1 = intsA b) (fun (k : Nat) => a.length - k) (0) ⟨by first | omega | assumption | (simp; done) | (simp; omega), by first | omega | assumption | (simp; done) | (simp; omega), by simp [hl], by simp [hl], by simp [hl]⟩ fun k s hsA LA hLA => ?_
    obtain ⟨hk, ht, h5, h0, h1⟩ := hsA
    repeat (first | simp [h5, h0, h1, hl] | with_reducible refine And.intro (by omega) ?_ | with_reducible refine optK_if (by omega) ?_ | with_reducible refine optD_if (by omega) ?_ | simp (disch := omega) only [wrap_i64, if_pos, if_neg] | with_reducible refine gsel_pure (by with_unfolding_all rfl) _ (fun hg => by (try simp at hg); simp [hg, h5, h0, h1, hl]; rfl) ?_ | with_reducible refine dsel_pure (by with_unfolding_all rfl) _ (fun hg => by (try simp at hg); simp [hg, h5, h0, h1, hl]; rfl) ?_ | with_reducible refine awp_draw (by kernel_rfl) (by decide +kernel) ?_)
    (with_reducible refine condK_intro (fun hlt => ?_) (fun hlt => ?_)) <;> (try simp only [hlt]) <;> (try simp [andB, orB, eqI, ltI, Int.natCast_inj] at hlt)
    · have hlb : k < b.length := by omega
      have hla : k < a.length := by omega
      repeat (first | simp [h5, h0, h1, hl, hlt, hla, hlb] | with_reducible refine And.intro (by omega) ?_ | with_reducible refine optK_if (by omega) ?_ | with_reducible refine optD_if (by omega) ?_ | simp (disch := omega) only [wrap_i64, if_pos, if_neg] | with_reducible refine gsel_pure (by with_unfolding_all rfl) _ (fun hg => by (try simp at hg); simp [hg, h5, h0, h1, hl, hlt, hla, hlb]; rfl) ?_ | with_reducible refine dsel_pure (by with_unfolding_all rfl) _ (fun hg => by (try simp at hg); simp [hg, h5, h0, h1, hl, hlt, hla, hlb]; rfl) ?_ | with_reducible refine awp_draw (by kernel_rfl) (by decide +kernel) ?_)
      (with_reducible refine condK_intro (fun he => ?_) (fun he => ?_)) <;> (try simp only [he]) <;> (try simp [andB, orB, eqI, ltI, Int.natCast_inj] at he)
      · repeat (first | simp [h5, h0, h1, hl, hlt, he] | with_reducible refine And.intro (by omega) ?_ | with_reducible refine optK_if (by omega) ?_ | with_reducible refine optD_if (by omega) ?_ | simp (disch := omega) only [wrap_i64, if_pos, if_neg] | with_reducible refine gsel_pure (by with_unfolding_all rfl) _ (fun hg => by (try simp at hg); simp [hg, h5, h0, h1, hl, hlt, he]; rfl) ?_ | with_reducible refine dsel_pure (by with_unfolding_all rfl) _ (fun hg => by (try simp at hg); simp [hg, h5, h0, h1, hl, hlt, he]; rfl) ?_ | with_reducible refine awp_draw (by kernel_rfl) (by decide +kernel) ?_)
        refine hQ _ _ (ret2 (by simp [retAV, resAV]; rfl) (by simp; rfl) ?_)
        have : a ≠ b := by rintro rfl; exact he rfl
        simp [this]
      · repeat (first | simp [h5, h0, h1, hl, hlt, he] | with_reducible refine And.intro (by omega) ?_ | with_reducible refine optK_if (by omega) ?_ | with_reducible refine optD_if (by omega) ?_ | simp (disch := omega) only [wrap_i64, if_pos, if_neg] | with_reducible refine gsel_pure (by with_unfolding_all rfl) _ (fun hg => by (try simp at hg); simp [hg, h5, h0, h1, hl, hlt, he]; rfl) ?_ | with_reducible refine dsel_pure (by with_unfolding_all rfl) _ (fun hg => by (try simp at hg); simp [hg, h5, h0, h1, hl, hlt, he]; rfl) ?_ | with_reducible refine awp_draw (by kernel_rfl) (by decide +kernel) ?_)
        refine hLA (k + 1) _ ⟨by first | omega | assumption | (simp; done) | (simp; omega), by rw [List.take_succ_eq_append_getElem hla, List.take_succ_eq_append_getElem hlb, ht, he], by simp [h5, h0, h1, hl, hlt, he], by simp [h5, h0, h1, hl, hlt, he], by simp [h5, h0, h1, hl, hlt, he]⟩ (by first | omega | (simp; omega))
    · repeat (first | simp [h5, h0, h1, hl, hlt] | with_reducible refine And.intro (by omega) ?_ | with_reducible refine optK_if (by omega) ?_ | with_reducible refine optD_if (by omega) ?_ | simp (disch := omega) only [wrap_i64, if_pos, if_neg] | with_reducible refine gsel_pure (by with_unfolding_all rfl) _ (fun hg => by (try simp at hg); simp [hg, h5, h0, h1, hl, hlt]; rfl) ?_ | with_reducible refine dsel_pure (by with_unfolding_all rfl) _ (fun hg => by (try simp at hg); simp [hg, h5, h0, h1, hl, hlt]; rfl) ?_ | with_reducible refine awp_draw (by kernel_rfl) (by decide +kernel) ?_)
      refine hQ _ _ (ret2 (by simp [retAV, resAV]; rfl) (by simp; rfl) ?_)
      have h1 : a.take k = a := List.take_of_length_le (by omega)
      have h2 : b.take k = b := List.take_of_length_le (by omega)
      rw [h1, h2] at ht
      simp [ht]
theorem at_appendSeq (g : Nat) (caps : List CV) (xs : List Int) (hl : xs.length ≤ 1000000) (hs : SeqAt Tryd.prog g (caps.map fun c => .cell (.p c)) (evs xs)) : At Tryd.prog 73 [.cell .z, .cell (.p (.fn g caps))] (.cell (if xs.length = 0 then .z else .own 0 1 xs.length (intsC xs))) := by
  refine at_code mixed Tryd.func73 (by kernel_rfl) rfl (by kernel_rfl) (by kernel_rfl) rfl fun Q hQ => ?_
  repeat (first | simp | with_reducible refine And.intro (by omega) ?_ | with_reducible refine optK_if (by omega) ?_ | with_reducible refine optD_if (by omega) ?_ | simp (disch := omega) only [wrap_i64, if_pos, if_neg] | with_reducible refine gsel_pure (by with_unfolding_all rfl) _ (fun hg => by (try simp at hg); simp [hg]; rfl) ?_ | with_reducible refine dsel_pure (by with_unfolding_all rfl) _ (fun hg => by (try simp at hg); simp [hg]; rfl) ?_ | with_reducible refine awp_draw (by kernel_rfl) (by decide +kernel) ?_)
  refine awp_range (T := [2, 3]) (gf := g) (cs := caps) (evs xs) (fun (k : Nat) (bx : Nat → Option (List AC)) => bx 0 = some ([if k = 0 then .z else .own 196800 1 k (intsC (xs.take k))])) rfl (by simp) (hs) (fun x hx => by simp [evs] at hx; obtain ⟨y, _, rfl⟩ := hx; rfl) (by simp) (fun k x bx hx b0 => ?_) (fun bx b0 => ?_)
  · obtain ⟨hk, rfl⟩ := evs_get hx
    by_cases h0 : k = 0
    · subst h0
      rw [if_pos rfl] at b0
      repeat (first | simp [b0] | with_reducible refine And.intro (by omega) ?_ | with_reducible refine optK_if (by omega) ?_ | with_reducible refine optD_if (by omega) ?_ | simp (disch := omega) only [wrap_i64, if_pos, if_neg] | with_reducible refine gsel_pure (by with_unfolding_all rfl) _ (fun hg => by (try simp at hg); simp [hg, b0]; rfl) ?_ | with_reducible refine dsel_pure (by with_unfolding_all rfl) _ (fun hg => by (try simp at hg); simp [hg, b0]; rfl) ?_ | with_reducible refine awp_draw (by kernel_rfl) (by decide +kernel) ?_)
      refine rPost_normal (by simp [b0, intsC_takeS hk])
    · rw [if_neg h0] at b0
      repeat (first | simp [b0] | with_reducible refine And.intro (by omega) ?_ | with_reducible refine optK_if (by omega) ?_ | with_reducible refine optD_if (by omega) ?_ | simp (disch := omega) only [wrap_i64, if_pos, if_neg] | with_reducible refine gsel_pure (by with_unfolding_all rfl) _ (fun hg => by (try simp at hg); simp [hg, b0]; rfl) ?_ | with_reducible refine dsel_pure (by with_unfolding_all rfl) _ (fun hg => by (try simp at hg); simp [hg, b0]; rfl) ?_ | with_reducible refine awp_draw (by kernel_rfl) (by decide +kernel) ?_)
      refine rPost_normal (by simp [b0, intsC_takeS hk])
  · rw [evs_length] at b0
    by_cases h0 : xs.length = 0
    · rw [if_pos h0] at b0
      repeat (first | simp [b0] | with_reducible refine And.intro (by omega) ?_ | with_reducible refine optK_if (by omega) ?_ | with_reducible refine optD_if (by omega) ?_ | simp (disch := omega) only [wrap_i64, if_pos, if_neg] | with_reducible refine gsel_pure (by with_unfolding_all rfl) _ (fun hg => by (try simp at hg); simp [hg, b0]; rfl) ?_ | with_reducible refine dsel_pure (by with_unfolding_all rfl) _ (fun hg => by (try simp at hg); simp [hg, b0]; rfl) ?_ | with_reducible refine awp_draw (by kernel_rfl) (by decide +kernel) ?_)
      refine hQ _ _ (ret2 (by simp [retAV, resAV, b0]; rfl) (by simp [b0]; rfl) ?_)
      simp [h0]
    · rw [if_neg h0] at b0
      repeat (first | simp [b0] | with_reducible refine And.intro (by omega) ?_ | with_reducible refine optK_if (by omega) ?_ | with_reducible refine optD_if (by omega) ?_ | simp (disch := omega) only [wrap_i64, if_pos, if_neg] | with_reducible refine gsel_pure (by with_unfolding_all rfl) _ (fun hg => by (try simp at hg); simp [hg, b0]; rfl) ?_ | with_reducible refine dsel_pure (by with_unfolding_all rfl) _ (fun hg => by (try simp at hg); simp [hg, b0]; rfl) ?_ | with_reducible refine awp_draw (by kernel_rfl) (by decide +kernel) ?_)
      refine hQ _ _ (ret2 (by simp [retAV, resAV, b0]; rfl) (by simp [b0]; rfl) ?_)
      simp [h0]
theorem at_collect (g : Nat) (caps : List CV) (xs : List Int) (hl : xs.length ≤ 1000000) (hs : SeqAt Tryd.prog g (caps.map fun c => .cell (.p c)) (evs xs)) : At Tryd.prog 48 [.cell (.p (.fn g caps))] (intsA xs) := by
  have hA := at_appendSeq g caps xs hl hs
  by_cases h0 : xs.length = 0
  · rw [if_pos h0] at hA
    refine at_unzr (r := .cell .z) ?_ (by have : xs = [] := List.eq_nil_of_length_eq_zero h0; subst this; rfl)
    refine at_code mixed Tryd.func48 (by kernel_rfl) rfl (by kernel_rfl) (by kernel_rfl) rfl fun Q hQ => ?_
    repeat (first | simp | with_reducible refine And.intro (by omega) ?_ | with_reducible refine optK_if (by omega) ?_ | with_reducible refine optD_if (by omega) ?_ | simp (disch := omega) only [wrap_i64, if_pos, if_neg] | with_reducible refine gsel_pure (by with_unfolding_all rfl) _ (fun hg => by (try simp at hg); simp [hg]; rfl) ?_ | with_reducible refine dsel_pure (by with_unfolding_all rfl) _ (fun hg => by (try simp at hg); simp [hg]; rfl) ?_ | with_reducible refine awp_draw (by kernel_rfl) (by decide +kernel) ?_)
    refine gop_call (hA) (by (first | simp [wrap_i64] | simp (disch := omega) [wrap_i64]); try rfl) (by simp) (by simp) ?_
    repeat (first | simp | with_reducible refine And.intro (by omega) ?_ | with_reducible refine optK_if (by omega) ?_ | with_reducible refine optD_if (by omega) ?_ | simp (disch := omega) only [wrap_i64, if_pos, if_neg] | with_reducible refine gsel_pure (by with_unfolding_all rfl) _ (fun hg => by (try simp at hg); simp [hg]; rfl) ?_ | with_reducible refine dsel_pure (by with_unfolding_all rfl) _ (fun hg => by (try simp at hg); simp [hg]; rfl) ?_ | with_reducible refine awp_draw (by kernel_rfl) (by decide +kernel) ?_)
    refine hQ _ _ (ret2 (by simp [retAV, resAV]; rfl) (by simp; rfl) ?_)
    rfl
  · rw [if_neg h0] at hA
    have hA2 := at_pure hA (r' := intsA xs) (by simp)
    refine at_code mixed Tryd.func48 (by kernel_rfl) rfl (by kernel_rfl) (by kernel_rfl) rfl fun Q hQ => ?_
    repeat (first | simp | with_reducible refine And.intro (by omega) ?_ | with_reducible refine optK_if (by omega) ?_ | with_reducible refine optD_if (by omega) ?_ | simp (disch := omega) only [wrap_i64, if_pos, if_neg] | with_reducible refine gsel_pure (by with_unfolding_all rfl) _ (fun hg => by (try simp at hg); simp [hg]; rfl) ?_ | with_reducible refine dsel_pure (by with_unfolding_all rfl) _ (fun hg => by (try simp at hg); simp [hg]; rfl) ?_ | with_reducible refine awp_draw (by kernel_rfl) (by decide +kernel) ?_)
    refine gop_call' (hA2) (by (first | simp [wrap_i64] | simp (disch := omega) [wrap_i64]); try rfl) (by simp) (by simp) ?_
    repeat (first | simp | with_reducible refine And.intro (by omega) ?_ | with_reducible refine optK_if (by omega) ?_ | with_reducible refine optD_if (by omega) ?_ | simp (disch := omega) only [wrap_i64, if_pos, if_neg] | with_reducible refine gsel_pure (by with_unfolding_all rfl) _ (fun hg => by (try simp at hg); simp [hg]; rfl) ?_ | with_reducible refine dsel_pure (by with_unfolding_all rfl) _ (fun hg => by (try simp at hg); simp [hg]; rfl) ?_ | with_reducible refine awp_draw (by kernel_rfl) (by decide +kernel) ?_)
    refine hQ _ _ (ret2 (by simp [retAV, resAV]; rfl) (by simp; rfl) ?_)
    rfl
theorem at_next (name : ByteArray) (l : List I8) (k : Int) : At Tryd.prog 15 [fAV name l, iV .i64 k] (.tup [if funcE l = 0 ∧ 0 ≤ k ∧ k < l.length then intsA (natI (sucs l k.toNat)) else .cell .z, iV .i64 (if funcE l = 0 then (if 0 ≤ k ∧ k < l.length then 0 else 2) else funcE l)]) := by
  by_cases hf : funcE l = 0
  rotate_left
  · have e1 : eqI (funcE l) 0 = false := by simp [eqI, hf]
    refine at_code mixed Tryd.func15 (by kernel_rfl) rfl (by kernel_rfl) (by kernel_rfl) rfl fun Q hQ => ?_
    repeat (first | simp | with_reducible refine And.intro (by omega) ?_ | with_reducible refine optK_if (by omega) ?_ | with_reducible refine optD_if (by omega) ?_ | simp (disch := omega) only [wrap_i64, if_pos, if_neg] | with_reducible refine gsel_pure (by with_unfolding_all rfl) _ (fun hg => by (try simp at hg); simp [hg]; rfl) ?_ | with_reducible refine dsel_pure (by with_unfolding_all rfl) _ (fun hg => by (try simp at hg); simp [hg]; rfl) ?_ | with_reducible refine awp_draw (by kernel_rfl) (by decide +kernel) ?_)
    refine gop_call (at_cfgCheck name l) (by (first | simp [wrap_i64] | simp (disch := omega) [wrap_i64]); try rfl) (by simp) (by simp) ?_
    repeat (first | simp [e1] | with_reducible refine And.intro (by omega) ?_ | with_reducible refine optK_if (by omega) ?_ | with_reducible refine optD_if (by omega) ?_ | simp (disch := omega) only [wrap_i64, if_pos, if_neg] | with_reducible refine gsel_pure (by with_unfolding_all rfl) _ (fun hg => by (try simp at hg); simp [hg, e1]; rfl) ?_ | with_reducible refine dsel_pure (by with_unfolding_all rfl) _ (fun hg => by (try simp at hg); simp [hg, e1]; rfl) ?_ | with_reducible refine awp_draw (by kernel_rfl) (by decide +kernel) ?_)
    refine hQ _ _ (ret2 (by simp [retAV, resAV]; rfl) (by simp; rfl) ?_)
    simp [hf]
  have ok := okL hf
  have hlen := ok.len
  refine at_code mixed Tryd.func15 (by kernel_rfl) rfl (by kernel_rfl) (by kernel_rfl) rfl fun Q hQ => ?_
  repeat (first | simp | with_reducible refine And.intro (by omega) ?_ | with_reducible refine optK_if (by omega) ?_ | with_reducible refine optD_if (by omega) ?_ | simp (disch := omega) only [wrap_i64, if_pos, if_neg] | with_reducible refine gsel_pure (by with_unfolding_all rfl) _ (fun hg => by (try simp at hg); simp [hg]; rfl) ?_ | with_reducible refine dsel_pure (by with_unfolding_all rfl) _ (fun hg => by (try simp at hg); simp [hg]; rfl) ?_ | with_reducible refine awp_draw (by kernel_rfl) (by decide +kernel) ?_)
  refine gop_call (at_cfgCheck name l) (by (first | simp [wrap_i64] | simp (disch := omega) [wrap_i64]); try rfl) (by simp) (by simp) ?_
  repeat (first | simp [hf] | with_reducible refine And.intro (by omega) ?_ | with_reducible refine optK_if (by omega) ?_ | with_reducible refine optD_if (by omega) ?_ | simp (disch := omega) only [wrap_i64, if_pos, if_neg] | with_reducible refine gsel_pure (by with_unfolding_all rfl) _ (fun hg => by (try simp at hg); simp [hg, hf]; rfl) ?_ | with_reducible refine dsel_pure (by with_unfolding_all rfl) _ (fun hg => by (try simp at hg); simp [hg, hf]; rfl) ?_ | with_reducible refine awp_draw (by kernel_rfl) (by decide +kernel) ?_)
  (with_reducible refine condK_intro (fun hk => ?_) (fun hk => ?_)) <;> (try simp only [hk]) <;> (try simp [andB, orB, eqI, ltI, Int.natCast_inj] at hk)
  · repeat (first | simp [hk] | with_reducible refine And.intro (by omega) ?_ | with_reducible refine optK_if (by omega) ?_ | with_reducible refine optD_if (by omega) ?_ | simp (disch := omega) only [wrap_i64, if_pos, if_neg] | with_reducible refine gsel_pure (by with_unfolding_all rfl) _ (fun hg => by (try simp at hg); simp [hg, hk]; rfl) ?_ | with_reducible refine dsel_pure (by with_unfolding_all rfl) _ (fun hg => by (try simp at hg); simp [hg, hk]; rfl) ?_ | with_reducible refine awp_draw (by kernel_rfl) (by decide +kernel) ?_)
    refine hQ _ _ (ret2 (by simp [retAV, resAV]; rfl) (by simp; rfl) ?_)
    have : ¬ (0 ≤ k ∧ k < l.length) := by omega
    simp [hf, this]
  · obtain ⟨m, rfl⟩ : ∃ m : Nat, k = m := ⟨k.toNat, by omega⟩
    have hm : m < l.length := by omega
    repeat (first | simp [hk] | with_reducible refine And.intro (by omega) ?_ | with_reducible refine optK_if (by omega) ?_ | with_reducible refine optD_if (by omega) ?_ | simp (disch := omega) only [wrap_i64, if_pos, if_neg] | with_reducible refine gsel_pure (by with_unfolding_all rfl) _ (fun hg => by (try simp at hg); simp [hg, hk]; rfl) ?_ | with_reducible refine dsel_pure (by with_unfolding_all rfl) _ (fun hg => by (try simp at hg); simp [hg, hk]; rfl) ?_ | with_reducible refine awp_draw (by kernel_rfl) (by decide +kernel) ?_)
    refine gop_call' (at_successors name l m) (by (first | simp [hk] | simp (disch := omega) [hk, wrap_i64]); try rfl) (by simp) (by simp) ?_
    repeat (first | simp [hk] | with_reducible refine And.intro (by omega) ?_ | with_reducible refine optK_if (by omega) ?_ | with_reducible refine optD_if (by omega) ?_ | simp (disch := omega) only [wrap_i64, if_pos, if_neg] | with_reducible refine gsel_pure (by with_unfolding_all rfl) _ (fun hg => by (try simp at hg); simp [hg, hk]; rfl) ?_ | with_reducible refine dsel_pure (by with_unfolding_all rfl) _ (fun hg => by (try simp at hg); simp [hg, hk]; rfl) ?_ | with_reducible refine awp_draw (by kernel_rfl) (by decide +kernel) ?_)
    have hsl := sucs_len l m
    refine gop_call' (at_collect 74 [.bx [sC name, .sl l.length (codeC l)], .bx [iC m]] (natI (sucs l m)) (by simp; omega) (by simpa using seq_successors name l ok m hm)) (by (first | simp [hk] | simp (disch := omega) [hk, wrap_i64]); try rfl) (by simp) (by simp) ?_
    repeat (first | simp [hk] | with_reducible refine And.intro (by omega) ?_ | with_reducible refine optK_if (by omega) ?_ | with_reducible refine optD_if (by omega) ?_ | simp (disch := omega) only [wrap_i64, if_pos, if_neg] | with_reducible refine gsel_pure (by with_unfolding_all rfl) _ (fun hg => by (try simp at hg); simp [hg, hk]; rfl) ?_ | with_reducible refine dsel_pure (by with_unfolding_all rfl) _ (fun hg => by (try simp at hg); simp [hg, hk]; rfl) ?_ | with_reducible refine awp_draw (by kernel_rfl) (by decide +kernel) ?_)
    refine hQ _ _ (ret2 (by simp [retAV, resAV]; rfl) (by simp; rfl) ?_)
    simp [hf, hm]
end Go.Proofs
end
