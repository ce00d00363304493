/- Contracts of functions, by their numbers, and the laws that walk them. Conditions: as each states. -/
import Derived.Test.YtjbebaachciedaaDoorProg
import Derived.KernelRfl
import Derived.Test.YtjbebaachciedaaDoorH3
import Derived.Laws.BitsAllLaws
set_option linter.all false
section
set_option linter.all false
namespace Go.Proofs
open Go.Hw
set_option maxRecDepth 100000
theorem mixed : Tryd.prog.follows .mixedOrders = true := by kernel_rfl
@[simp] theorem sz3 : szOf Tryd.prog 3 = some 1 := by kernel_rfl
@[simp] theorem ag3 : aggB Tryd.prog 3 = some false := by kernel_rfl
@[simp] theorem ei3 : eInfo Tryd.prog 3 = some (1, 8) := by kernel_rfl
@[simp] theorem zo3 : zero1 Tryd.prog 3 = some (.p (.c (.int .i64 0))) := by kernel_rfl
@[simp] theorem ze3 : zeroA Tryd.prog 3 = some [.p (.c (.int .i64 0))] := by kernel_rfl
@[simp] theorem sz4 : szOf Tryd.prog 4 = some 1 := by kernel_rfl
@[simp] theorem ag4 : aggB Tryd.prog 4 = some false := by kernel_rfl
@[simp] theorem ei4 : eInfo Tryd.prog 4 = some (1, 1) := by kernel_rfl
@[simp] theorem zo4 : zero1 Tryd.prog 4 = some (.p (.c (.bool false))) := by kernel_rfl
@[simp] theorem ze4 : zeroA Tryd.prog 4 = some [.p (.c (.bool false))] := by kernel_rfl
@[simp] theorem sz5 : szOf Tryd.prog 5 = some 1 := by kernel_rfl
@[simp] theorem ag5 : aggB Tryd.prog 5 = some false := by kernel_rfl
@[simp] theorem ei5 : eInfo Tryd.prog 5 = some (1, 1) := by kernel_rfl
@[simp] theorem zo5 : zero1 Tryd.prog 5 = some (.p (.c (.int .u8 0))) := by kernel_rfl
@[simp] theorem ze5 : zeroA Tryd.prog 5 = some [.p (.c (.int .u8 0))] := by kernel_rfl
@[simp] theorem sz9 : szOf Tryd.prog 9 = some 1 := by kernel_rfl
@[simp] theorem ag9 : aggB Tryd.prog 9 = some false := by kernel_rfl
@[simp] theorem ei9 : eInfo Tryd.prog 9 = some (1, 16) := by kernel_rfl
@[simp] theorem zo9 : zero1 Tryd.prog 9 = some (.p (.c (.string ⟨#[]⟩))) := by kernel_rfl
@[simp] theorem ze9 : zeroA Tryd.prog 9 = some [.p (.c (.string ⟨#[]⟩))] := by kernel_rfl
@[simp] theorem sz22 : szOf Tryd.prog 22 = some 1 := by kernel_rfl
@[simp] theorem ag22 : aggB Tryd.prog 22 = some false := by kernel_rfl
@[simp] theorem ei22 : eInfo Tryd.prog 22 = some (1, 24) := by kernel_rfl
@[simp] theorem zo22 : zero1 Tryd.prog 22 = some (.z) := by kernel_rfl
@[simp] theorem ze22 : zeroA Tryd.prog 22 = some [.z] := by kernel_rfl
@[simp] theorem sz23 : szOf Tryd.prog 23 = some 1 := by kernel_rfl
@[simp] theorem ag23 : aggB Tryd.prog 23 = some false := by kernel_rfl
@[simp] theorem ei23 : eInfo Tryd.prog 23 = some (1, 24) := by kernel_rfl
@[simp] theorem zo23 : zero1 Tryd.prog 23 = some (.z) := by kernel_rfl
@[simp] theorem ze23 : zeroA Tryd.prog 23 = some [.z] := by kernel_rfl
@[simp] theorem sz24 : szOf Tryd.prog 24 = some 1 := by kernel_rfl
@[simp] theorem ag24 : aggB Tryd.prog 24 = some false := by kernel_rfl
@[simp] theorem ei24 : eInfo Tryd.prog 24 = some (1, 24) := by kernel_rfl
@[simp] theorem zo24 : zero1 Tryd.prog 24 = some (.z) := by kernel_rfl
@[simp] theorem ze24 : zeroA Tryd.prog 24 = some [.z] := by kernel_rfl
@[simp] theorem sz25 : szOf Tryd.prog 25 = some 1 := by kernel_rfl
@[simp] theorem ag25 : aggB Tryd.prog 25 = some false := by kernel_rfl
@[simp] theorem ei25 : eInfo Tryd.prog 25 = some (1, 24) := by kernel_rfl
@[simp] theorem zo25 : zero1 Tryd.prog 25 = some (.z) := by kernel_rfl
@[simp] theorem ze25 : zeroA Tryd.prog 25 = some [.z] := by kernel_rfl
@[simp] theorem sz26 : szOf Tryd.prog 26 = some 5 := by kernel_rfl
@[simp] theorem ag26 : aggB Tryd.prog 26 = some true := by kernel_rfl
@[simp] theorem ei26 : eInfo Tryd.prog 26 = some (5, 120) := by kernel_rfl
@[simp] theorem ze26 : zeroA Tryd.prog 26 = some [.z, .z, .z, .z, .z] := by kernel_rfl
@[simp] theorem sz27 : szOf Tryd.prog 27 = some 5 := by kernel_rfl
@[simp] theorem ag27 : aggB Tryd.prog 27 = some true := by kernel_rfl
@[simp] theorem ei27 : eInfo Tryd.prog 27 = some (5, 120) := by kernel_rfl
@[simp] theorem ze27 : zeroA Tryd.prog 27 = some [.z, .z, .z, .z, .z] := by kernel_rfl
@[simp] theorem sz28 : szOf Tryd.prog 28 = some 1 := by kernel_rfl
@[simp] theorem ag28 : aggB Tryd.prog 28 = some false := by kernel_rfl
@[simp] theorem ei28 : eInfo Tryd.prog 28 = some (1, 8) := by kernel_rfl
@[simp] theorem zo28 : zero1 Tryd.prog 28 = some (.p (.c (.int .i64 0))) := by kernel_rfl
@[simp] theorem ze28 : zeroA Tryd.prog 28 = some [.p (.c (.int .i64 0))] := by kernel_rfl
@[simp] theorem sz29 : szOf Tryd.prog 29 = some 2 := by kernel_rfl
@[simp] theorem ag29 : aggB Tryd.prog 29 = some true := by kernel_rfl
@[simp] theorem ei29 : eInfo Tryd.prog 29 = some (2, 16) := by kernel_rfl
@[simp] theorem ze29 : zeroA Tryd.prog 29 = some [.p (.c (.int .i64 0)), .p (.c (.int .i64 0))] := by kernel_rfl
@[simp] theorem eqo29 : eqOk Tryd.prog 29 = true := by first | kernel_rfl
@[simp] theorem sz30 : szOf Tryd.prog 30 = some 2 := by kernel_rfl
@[simp] theorem ag30 : aggB Tryd.prog 30 = some true := by kernel_rfl
@[simp] theorem ei30 : eInfo Tryd.prog 30 = some (2, 16) := by kernel_rfl
@[simp] theorem ze30 : zeroA Tryd.prog 30 = some [.p (.c (.int .i64 0)), .p (.c (.int .i64 0))] := by kernel_rfl
@[simp] theorem eqo30 : eqOk Tryd.prog 30 = true := by first | kernel_rfl
@[simp] theorem sz33 : szOf Tryd.prog 33 = some 1 := by kernel_rfl
@[simp] theorem ag33 : aggB Tryd.prog 33 = some false := by kernel_rfl
@[simp] theorem ei33 : eInfo Tryd.prog 33 = some (1, 8) := by kernel_rfl
@[simp] theorem zo33 : zero1 Tryd.prog 33 = some (.p (.c (.int .i64 0))) := by kernel_rfl
@[simp] theorem ze33 : zeroA Tryd.prog 33 = some [.p (.c (.int .i64 0))] := by kernel_rfl
@[simp] theorem sz37 : szOf Tryd.prog 37 = some 1 := by kernel_rfl
@[simp] theorem ag37 : aggB Tryd.prog 37 = some false := by kernel_rfl
@[simp] theorem ei37 : eInfo Tryd.prog 37 = some (1, 24) := by kernel_rfl
@[simp] theorem zo37 : zero1 Tryd.prog 37 = some (.z) := by kernel_rfl
@[simp] theorem ze37 : zeroA Tryd.prog 37 = some [.z] := by kernel_rfl
@[simp] theorem sz38 : szOf Tryd.prog 38 = some 8 := by kernel_rfl
@[simp] theorem ag38 : aggB Tryd.prog 38 = some true := by kernel_rfl
@[simp] theorem ei38 : eInfo Tryd.prog 38 = some (8, 160) := by kernel_rfl
@[simp] theorem ze38 : zeroA Tryd.prog 38 = some [.z, .z, .z, .z, .z, .p (.c (.int .i64 0)), .p (.c (.int .i64 0)), .z] := by kernel_rfl
@[simp] theorem sz39 : szOf Tryd.prog 39 = some 8 := by kernel_rfl
@[simp] theorem ag39 : aggB Tryd.prog 39 = some true := by kernel_rfl
@[simp] theorem ei39 : eInfo Tryd.prog 39 = some (8, 160) := by kernel_rfl
@[simp] theorem ze39 : zeroA Tryd.prog 39 = some [.z, .z, .z, .z, .z, .p (.c (.int .i64 0)), .p (.c (.int .i64 0)), .z] := by kernel_rfl
@[simp] theorem sz40 : szOf Tryd.prog 40 = some 1 := by kernel_rfl
@[simp] theorem ag40 : aggB Tryd.prog 40 = some false := by kernel_rfl
@[simp] theorem ei40 : eInfo Tryd.prog 40 = some (1, 24) := by kernel_rfl
@[simp] theorem zo40 : zero1 Tryd.prog 40 = some (.z) := by kernel_rfl
@[simp] theorem ze40 : zeroA Tryd.prog 40 = some [.z] := by kernel_rfl
@[simp] theorem sz41 : szOf Tryd.prog 41 = some 4 := by kernel_rfl
@[simp] theorem ag41 : aggB Tryd.prog 41 = some true := by kernel_rfl
@[simp] theorem ei41 : eInfo Tryd.prog 41 = some (4, 48) := by kernel_rfl
@[simp] theorem ze41 : zeroA Tryd.prog 41 = some [.z, .p (.c (.bool false)), .p (.c (.int .i64 0)), .p (.c (.int .i64 0))] := by kernel_rfl
@[simp] theorem sz42 : szOf Tryd.prog 42 = some 4 := by kernel_rfl
@[simp] theorem ag42 : aggB Tryd.prog 42 = some true := by kernel_rfl
@[simp] theorem ei42 : eInfo Tryd.prog 42 = some (4, 48) := by kernel_rfl
@[simp] theorem ze42 : zeroA Tryd.prog 42 = some [.z, .p (.c (.bool false)), .p (.c (.int .i64 0)), .p (.c (.int .i64 0))] := by kernel_rfl
@[simp] theorem sz43 : szOf Tryd.prog 43 = some 1 := by kernel_rfl
@[simp] theorem ag43 : aggB Tryd.prog 43 = some false := by kernel_rfl
@[simp] theorem ei43 : eInfo Tryd.prog 43 = some (1, 24) := by kernel_rfl
@[simp] theorem zo43 : zero1 Tryd.prog 43 = some (.z) := by kernel_rfl
@[simp] theorem ze43 : zeroA Tryd.prog 43 = some [.z] := by kernel_rfl
@[simp] theorem sz54 : szOf Tryd.prog 54 = some 1 := by kernel_rfl
@[simp] theorem ag54 : aggB Tryd.prog 54 = some false := by kernel_rfl
@[simp] theorem ei54 : eInfo Tryd.prog 54 = some (1, 24) := by kernel_rfl
@[simp] theorem zo54 : zero1 Tryd.prog 54 = some (.z) := by kernel_rfl
@[simp] theorem ze54 : zeroA Tryd.prog 54 = some [.z] := by kernel_rfl
@[simp] theorem sz55 : szOf Tryd.prog 55 = some 2 := by kernel_rfl
@[simp] theorem ag55 : aggB Tryd.prog 55 = some true := by kernel_rfl
@[simp] theorem ei55 : eInfo Tryd.prog 55 = some (2, 40) := by kernel_rfl
@[simp] theorem ze55 : zeroA Tryd.prog 55 = some [.p (.c (.string ⟨#[]⟩)), .z] := by kernel_rfl
@[simp] theorem sz56 : szOf Tryd.prog 56 = some 2 := by kernel_rfl
@[simp] theorem ag56 : aggB Tryd.prog 56 = some true := by kernel_rfl
@[simp] theorem ei56 : eInfo Tryd.prog 56 = some (2, 40) := by kernel_rfl
@[simp] theorem ze56 : zeroA Tryd.prog 56 = some [.p (.c (.string ⟨#[]⟩)), .z] := by kernel_rfl
@[simp] theorem sz60 : szOf Tryd.prog 60 = some 1 := by kernel_rfl
@[simp] theorem ag60 : aggB Tryd.prog 60 = some false := by kernel_rfl
@[simp] theorem ei60 : eInfo Tryd.prog 60 = some (1, 4) := by kernel_rfl
@[simp] theorem zo60 : zero1 Tryd.prog 60 = some (.p (.c (.int .u32 0))) := by kernel_rfl
@[simp] theorem ze60 : zeroA Tryd.prog 60 = some [.p (.c (.int .u32 0))] := by kernel_rfl
@[simp] theorem sz65 : szOf Tryd.prog 65 = some 2 := by kernel_rfl
@[simp] theorem ag65 : aggB Tryd.prog 65 = some true := by kernel_rfl
@[simp] theorem ei65 : eInfo Tryd.prog 65 = some (2, 24) := by kernel_rfl
@[simp] theorem ze65 : zeroA Tryd.prog 65 = some [.p (.c (.string ⟨#[]⟩)), .p (.c (.int .i64 0))] := by kernel_rfl
@[simp] theorem eqo65 : eqOk Tryd.prog 65 = true := by first | kernel_rfl
@[simp] theorem sz66 : szOf Tryd.prog 66 = some 2 := by kernel_rfl
@[simp] theorem ag66 : aggB Tryd.prog 66 = some true := by kernel_rfl
@[simp] theorem ei66 : eInfo Tryd.prog 66 = some (2, 24) := by kernel_rfl
@[simp] theorem ze66 : zeroA Tryd.prog 66 = some [.p (.c (.string ⟨#[]⟩)), .p (.c (.int .i64 0))] := by kernel_rfl
@[simp] theorem eqo66 : eqOk Tryd.prog 66 = true := by first | kernel_rfl
@[simp] theorem sz68 : szOf Tryd.prog 68 = some 1 := by kernel_rfl
@[simp] theorem ag68 : aggB Tryd.prog 68 = some false := by kernel_rfl
@[simp] theorem ei68 : eInfo Tryd.prog 68 = some (1, 8) := by kernel_rfl
@[simp] theorem zo68 : zero1 Tryd.prog 68 = some (.p (.c (.int .i64 0))) := by kernel_rfl
@[simp] theorem ze68 : zeroA Tryd.prog 68 = some [.p (.c (.int .i64 0))] := by kernel_rfl
@[simp] theorem sz69 : szOf Tryd.prog 69 = some 1 := by kernel_rfl
@[simp] theorem ag69 : aggB Tryd.prog 69 = some false := by kernel_rfl
@[simp] theorem ei69 : eInfo Tryd.prog 69 = some (1, 8) := by kernel_rfl
@[simp] theorem zo69 : zero1 Tryd.prog 69 = some (.p (.c (.int .i64 0))) := by kernel_rfl
@[simp] theorem ze69 : zeroA Tryd.prog 69 = some [.p (.c (.int .i64 0))] := by kernel_rfl
@[simp] theorem sz70 : szOf Tryd.prog 70 = some 1 := by kernel_rfl
@[simp] theorem ag70 : aggB Tryd.prog 70 = some false := by kernel_rfl
@[simp] theorem ei70 : eInfo Tryd.prog 70 = some (1, 8) := by kernel_rfl
@[simp] theorem zo70 : zero1 Tryd.prog 70 = some (.p (.c (.int .i64 0))) := by kernel_rfl
@[simp] theorem ze70 : zeroA Tryd.prog 70 = some [.p (.c (.int .i64 0))] := by kernel_rfl
@[simp] theorem sz71 : szOf Tryd.prog 71 = some 8 := by kernel_rfl
@[simp] theorem ag71 : aggB Tryd.prog 71 = some true := by kernel_rfl
@[simp] theorem ei71 : eInfo Tryd.prog 71 = some (8, 64) := by kernel_rfl
@[simp] theorem ze71 : zeroA Tryd.prog 71 = some [.p (.c (.int .i64 0)), .p (.c (.int .i64 0)), .p (.c (.int .i64 0)), .p (.c (.int .i64 0)), .p (.c (.int .i64 0)), .p (.c (.int .i64 0)), .p (.c (.int .i64 0)), .p (.c (.int .i64 0))] := by kernel_rfl
@[simp] theorem eqo71 : eqOk Tryd.prog 71 = true := by first | kernel_rfl
@[simp] theorem sz72 : szOf Tryd.prog 72 = some 8 := by kernel_rfl
@[simp] theorem ag72 : aggB Tryd.prog 72 = some true := by kernel_rfl
@[simp] theorem ei72 : eInfo Tryd.prog 72 = some (8, 64) := by kernel_rfl
@[simp] theorem ze72 : zeroA Tryd.prog 72 = some [.p (.c (.int .i64 0)), .p (.c (.int .i64 0)), .p (.c (.int .i64 0)), .p (.c (.int .i64 0)), .p (.c (.int .i64 0)), .p (.c (.int .i64 0)), .p (.c (.int .i64 0)), .p (.c (.int .i64 0))] := by kernel_rfl
@[simp] theorem eqo72 : eqOk Tryd.prog 72 = true := by first | kernel_rfl
@[simp] theorem sz73 : szOf Tryd.prog 73 = some 2 := by kernel_rfl
@[simp] theorem ag73 : aggB Tryd.prog 73 = some true := by kernel_rfl
@[simp] theorem ei73 : eInfo Tryd.prog 73 = some (2, 16) := by kernel_rfl
@[simp] theorem ze73 : zeroA Tryd.prog 73 = some [.p (.c (.int .i64 0)), .p (.c (.int .i64 0))] := by kernel_rfl
@[simp] theorem eqo73 : eqOk Tryd.prog 73 = true := by first | kernel_rfl
@[simp] theorem sz74 : szOf Tryd.prog 74 = some 2 := by kernel_rfl
@[simp] theorem ag74 : aggB Tryd.prog 74 = some true := by kernel_rfl
@[simp] theorem ei74 : eInfo Tryd.prog 74 = some (2, 16) := by kernel_rfl
@[simp] theorem ze74 : zeroA Tryd.prog 74 = some [.p (.c (.int .i64 0)), .p (.c (.int .i64 0))] := by kernel_rfl
@[simp] theorem eqo74 : eqOk Tryd.prog 74 = true := by first | kernel_rfl
@[simp] theorem sz75 : szOf Tryd.prog 75 = some 1 := by kernel_rfl
@[simp] theorem ag75 : aggB Tryd.prog 75 = some false := by kernel_rfl
@[simp] theorem ei75 : eInfo Tryd.prog 75 = some (1, 24) := by kernel_rfl
@[simp] theorem zo75 : zero1 Tryd.prog 75 = some (.z) := by kernel_rfl
@[simp] theorem ze75 : zeroA Tryd.prog 75 = some [.z] := by kernel_rfl
@[simp] theorem sz76 : szOf Tryd.prog 76 = some 2 := by kernel_rfl
@[simp] theorem ag76 : aggB Tryd.prog 76 = some true := by kernel_rfl
@[simp] theorem ei76 : eInfo Tryd.prog 76 = some (2, 32) := by kernel_rfl
@[simp] theorem ze76 : zeroA Tryd.prog 76 = some [.p (.c (.int .i64 0)), .z] := by kernel_rfl
@[simp] theorem sz77 : szOf Tryd.prog 77 = some 2 := by kernel_rfl
@[simp] theorem ag77 : aggB Tryd.prog 77 = some true := by kernel_rfl
@[simp] theorem ei77 : eInfo Tryd.prog 77 = some (2, 32) := by kernel_rfl
@[simp] theorem ze77 : zeroA Tryd.prog 77 = some [.p (.c (.int .i64 0)), .z] := by kernel_rfl
@[simp] theorem sz78 : szOf Tryd.prog 78 = some 4 := by kernel_rfl
@[simp] theorem ag78 : aggB Tryd.prog 78 = some true := by kernel_rfl
@[simp] theorem ei78 : eInfo Tryd.prog 78 = some (4, 64) := by kernel_rfl
@[simp] theorem ze78 : zeroA Tryd.prog 78 = some [.p (.c (.int .i64 0)), .z, .p (.c (.int .i64 0)), .z] := by kernel_rfl
@[simp] theorem sz79 : szOf Tryd.prog 79 = some 4 := by kernel_rfl
@[simp] theorem ag79 : aggB Tryd.prog 79 = some true := by kernel_rfl
@[simp] theorem ei79 : eInfo Tryd.prog 79 = some (4, 64) := by kernel_rfl
@[simp] theorem ze79 : zeroA Tryd.prog 79 = some [.p (.c (.int .i64 0)), .z, .p (.c (.int .i64 0)), .z] := by kernel_rfl
@[simp] theorem sz84 : szOf Tryd.prog 84 = some 1 := by kernel_rfl
@[simp] theorem ag84 : aggB Tryd.prog 84 = some false := by kernel_rfl
@[simp] theorem ei84 : eInfo Tryd.prog 84 = some (1, 8) := by kernel_rfl
@[simp] theorem ze84 : zeroA Tryd.prog 84 = some [.p (.c (.pointer none))] := by kernel_rfl
@[simp] theorem sz85 : szOf Tryd.prog 85 = some 2 := by kernel_rfl
@[simp] theorem ag85 : aggB Tryd.prog 85 = some true := by kernel_rfl
@[simp] theorem ei85 : eInfo Tryd.prog 85 = some (2, 32) := by kernel_rfl
@[simp] theorem ze85 : zeroA Tryd.prog 85 = some [.z, .p (.c (.int .i64 0))] := by kernel_rfl
@[simp] theorem sz86 : szOf Tryd.prog 86 = some 2 := by kernel_rfl
@[simp] theorem ag86 : aggB Tryd.prog 86 = some true := by kernel_rfl
@[simp] theorem ei86 : eInfo Tryd.prog 86 = some (2, 32) := by kernel_rfl
@[simp] theorem ze86 : zeroA Tryd.prog 86 = some [.z, .p (.c (.int .i64 0))] := by kernel_rfl
@[simp] theorem sz87 : szOf Tryd.prog 87 = some 7 := by kernel_rfl
@[simp] theorem ag87 : aggB Tryd.prog 87 = some true := by kernel_rfl
@[simp] theorem ei87 : eInfo Tryd.prog 87 = some (7, 88) := by kernel_rfl
@[simp] theorem ze87 : zeroA Tryd.prog 87 = some [.z, .p (.c (.int .i64 0)), .p (.c (.int .i64 0)), .z, .p (.c (.bool false)), .p (.c (.int .i64 0)), .p (.c (.int .i64 0))] := by kernel_rfl
@[simp] theorem sz88 : szOf Tryd.prog 88 = some 7 := by kernel_rfl
@[simp] theorem ag88 : aggB Tryd.prog 88 = some true := by kernel_rfl
@[simp] theorem ei88 : eInfo Tryd.prog 88 = some (7, 88) := by kernel_rfl
@[simp] theorem ze88 : zeroA Tryd.prog 88 = some [.z, .p (.c (.int .i64 0)), .p (.c (.int .i64 0)), .z, .p (.c (.bool false)), .p (.c (.int .i64 0)), .p (.c (.int .i64 0))] := by kernel_rfl
@[simp] theorem sz100 : szOf Tryd.prog 100 = some 1 := by kernel_rfl
@[simp] theorem ag100 : aggB Tryd.prog 100 = some false := by kernel_rfl
@[simp] theorem ei100 : eInfo Tryd.prog 100 = some (1, 8) := by kernel_rfl
@[simp] theorem zo100 : zero1 Tryd.prog 100 = some (.p (.c (.int .u64 0))) := by kernel_rfl
@[simp] theorem ze100 : zeroA Tryd.prog 100 = some [.p (.c (.int .u64 0))] := by kernel_rfl
@[simp] theorem sz101 : szOf Tryd.prog 101 = some 1 := by kernel_rfl
@[simp] theorem ag101 : aggB Tryd.prog 101 = some false := by kernel_rfl
@[simp] theorem ei101 : eInfo Tryd.prog 101 = some (1, 8) := by kernel_rfl
@[simp] theorem ze101 : zeroA Tryd.prog 101 = some [.p (.c .nilFunc)] := by kernel_rfl
@[simp] theorem sz102 : szOf Tryd.prog 102 = some 1 := by kernel_rfl
@[simp] theorem ag102 : aggB Tryd.prog 102 = some false := by kernel_rfl
@[simp] theorem ei102 : eInfo Tryd.prog 102 = some (1, 8) := by kernel_rfl
@[simp] theorem ze102 : zeroA Tryd.prog 102 = some [.p (.c .nilFunc)] := by kernel_rfl
@[simp] theorem sz103 : szOf Tryd.prog 103 = some 1 := by kernel_rfl
@[simp] theorem ag103 : aggB Tryd.prog 103 = some false := by kernel_rfl
@[simp] theorem ei103 : eInfo Tryd.prog 103 = some (1, 8) := by kernel_rfl
@[simp] theorem ze103 : zeroA Tryd.prog 103 = some [.p (.c .nilFunc)] := by kernel_rfl
@[simp] theorem sz107 : szOf Tryd.prog 107 = some 1 := by kernel_rfl
@[simp] theorem ag107 : aggB Tryd.prog 107 = some false := by kernel_rfl
@[simp] theorem ei107 : eInfo Tryd.prog 107 = some (1, 8) := by kernel_rfl
@[simp] theorem ze107 : zeroA Tryd.prog 107 = some [.p (.c (.pointer none))] := by kernel_rfl
@[simp] theorem sz112 : szOf Tryd.prog 112 = some 1 := by kernel_rfl
@[simp] theorem ag112 : aggB Tryd.prog 112 = some false := by kernel_rfl
@[simp] theorem ei112 : eInfo Tryd.prog 112 = some (1, 8) := by kernel_rfl
@[simp] theorem ze112 : zeroA Tryd.prog 112 = some [.p (.c (.pointer none))] := by kernel_rfl
@[simp] theorem sz121 : szOf Tryd.prog 121 = some 1 := by kernel_rfl
@[simp] theorem ag121 : aggB Tryd.prog 121 = some false := by kernel_rfl
@[simp] theorem ei121 : eInfo Tryd.prog 121 = some (1, 8) := by kernel_rfl
@[simp] theorem ze121 : zeroA Tryd.prog 121 = some [.p (.c .nilFunc)] := by kernel_rfl
@[simp] theorem sz122 : szOf Tryd.prog 122 = some 1 := by kernel_rfl
@[simp] theorem ag122 : aggB Tryd.prog 122 = some false := by kernel_rfl
@[simp] theorem ei122 : eInfo Tryd.prog 122 = some (1, 24) := by kernel_rfl
@[simp] theorem zo122 : zero1 Tryd.prog 122 = some (.z) := by kernel_rfl
@[simp] theorem ze122 : zeroA Tryd.prog 122 = some [.z] := by kernel_rfl
@[simp] theorem sz123 : szOf Tryd.prog 123 = some 2 := by kernel_rfl
@[simp] theorem ag123 : aggB Tryd.prog 123 = some true := by kernel_rfl
@[simp] theorem ei123 : eInfo Tryd.prog 123 = some (2, 16) := by kernel_rfl
@[simp] theorem ze123 : zeroA Tryd.prog 123 = some [.p (.c (.int .i64 0)), .p (.c (.int .i64 0))] := by kernel_rfl
@[simp] theorem eqo123 : eqOk Tryd.prog 123 = true := by first | kernel_rfl
@[simp] theorem sz124 : szOf Tryd.prog 124 = some 2 := by kernel_rfl
@[simp] theorem ag124 : aggB Tryd.prog 124 = some true := by kernel_rfl
@[simp] theorem ei124 : eInfo Tryd.prog 124 = some (2, 16) := by kernel_rfl
@[simp] theorem ze124 : zeroA Tryd.prog 124 = some [.p (.c (.int .i64 0)), .p (.c (.int .i64 0))] := by kernel_rfl
@[simp] theorem eqo124 : eqOk Tryd.prog 124 = true := by first | kernel_rfl
@[simp] theorem sz127 : szOf Tryd.prog 127 = some 1 := by kernel_rfl
@[simp] theorem ag127 : aggB Tryd.prog 127 = some false := by kernel_rfl
@[simp] theorem ei127 : eInfo Tryd.prog 127 = some (1, 8) := by kernel_rfl
@[simp] theorem zo127 : zero1 Tryd.prog 127 = some (.p (.c (.int .u64 0))) := by kernel_rfl
@[simp] theorem ze127 : zeroA Tryd.prog 127 = some [.p (.c (.int .u64 0))] := by kernel_rfl
@[simp] theorem sz130 : szOf Tryd.prog 130 = some 1 := by kernel_rfl
@[simp] theorem ag130 : aggB Tryd.prog 130 = some false := by kernel_rfl
@[simp] theorem ei130 : eInfo Tryd.prog 130 = some (1, 8) := by kernel_rfl
@[simp] theorem ze130 : zeroA Tryd.prog 130 = some [.p (.c .nilFunc)] := by kernel_rfl
@[simp] theorem sz135 : szOf Tryd.prog 135 = some 1 := by kernel_rfl
@[simp] theorem ag135 : aggB Tryd.prog 135 = some false := by kernel_rfl
@[simp] theorem ei135 : eInfo Tryd.prog 135 = some (1, 24) := by kernel_rfl
@[simp] theorem zo135 : zero1 Tryd.prog 135 = some (.z) := by kernel_rfl
@[simp] theorem ze135 : zeroA Tryd.prog 135 = some [.z] := by kernel_rfl
@[simp] theorem sz138 : szOf Tryd.prog 138 = some 1 := by kernel_rfl
@[simp] theorem ag138 : aggB Tryd.prog 138 = some false := by kernel_rfl
@[simp] theorem ei138 : eInfo Tryd.prog 138 = some (1, 8) := by kernel_rfl
@[simp] theorem ze138 : zeroA Tryd.prog 138 = some [.p (.c .nilFunc)] := by kernel_rfl
@[simp] theorem sz139 : szOf Tryd.prog 139 = some 1 := by kernel_rfl
@[simp] theorem ag139 : aggB Tryd.prog 139 = some false := by kernel_rfl
@[simp] theorem ei139 : eInfo Tryd.prog 139 = some (1, 8) := by kernel_rfl
@[simp] theorem ze139 : zeroA Tryd.prog 139 = some [.p (.c .nilFunc)] := by kernel_rfl
@[simp] theorem sz145 : szOf Tryd.prog 145 = some 1 := by kernel_rfl
@[simp] theorem ag145 : aggB Tryd.prog 145 = some false := by kernel_rfl
@[simp] theorem ei145 : eInfo Tryd.prog 145 = some (1, 8) := by kernel_rfl
@[simp] theorem ze145 : zeroA Tryd.prog 145 = some [.p (.c .nilFunc)] := by kernel_rfl
@[simp] theorem sz151 : szOf Tryd.prog 151 = some 7 := by kernel_rfl
@[simp] theorem ag151 : aggB Tryd.prog 151 = some true := by kernel_rfl
@[simp] theorem ei151 : eInfo Tryd.prog 151 = some (7, 7) := by kernel_rfl
@[simp] theorem ze151 : zeroA Tryd.prog 151 = some [.p (.c (.bool false)), .p (.c (.bool false)), .p (.c (.bool false)), .p (.c (.bool false)), .p (.c (.bool false)), .p (.c (.bool false)), .p (.c (.bool false))] := by kernel_rfl
@[simp] theorem sz152 : szOf Tryd.prog 152 = some 8 := by kernel_rfl
@[simp] theorem ag152 : aggB Tryd.prog 152 = some true := by kernel_rfl
@[simp] theorem ei152 : eInfo Tryd.prog 152 = some (8, 24) := by kernel_rfl
@[simp] theorem ze152 : zeroA Tryd.prog 152 = some [.p (.c (.string ⟨#[]⟩)), .p (.c (.bool false)), .p (.c (.bool false)), .p (.c (.bool false)), .p (.c (.bool false)), .p (.c (.bool false)), .p (.c (.bool false)), .p (.c (.bool false))] := by kernel_rfl
@[simp] theorem sz153 : szOf Tryd.prog 153 = some 8 := by kernel_rfl
@[simp] theorem ag153 : aggB Tryd.prog 153 = some true := by kernel_rfl
@[simp] theorem ei153 : eInfo Tryd.prog 153 = some (8, 24) := by kernel_rfl
@[simp] theorem ze153 : zeroA Tryd.prog 153 = some [.p (.c (.string ⟨#[]⟩)), .p (.c (.bool false)), .p (.c (.bool false)), .p (.c (.bool false)), .p (.c (.bool false)), .p (.c (.bool false)), .p (.c (.bool false)), .p (.c (.bool false))] := by kernel_rfl
@[simp] theorem sz154 : szOf Tryd.prog 154 = some 176 := by kernel_rfl
@[simp] theorem ag154 : aggB Tryd.prog 154 = some true := by kernel_rfl
@[simp] theorem ei154 : eInfo Tryd.prog 154 = some (176, 528) := by kernel_rfl
@[simp] theorem sz155 : szOf Tryd.prog 155 = some 7 := by kernel_rfl
@[simp] theorem ag155 : aggB Tryd.prog 155 = some true := by kernel_rfl
@[simp] theorem ei155 : eInfo Tryd.prog 155 = some (7, 56) := by kernel_rfl
@[simp] theorem ze155 : zeroA Tryd.prog 155 = some [.p (.c (.int .i64 0)), .p (.c (.int .i64 0)), .p (.c (.int .i64 0)), .p (.c (.int .i64 0)), .p (.c (.int .i64 0)), .p (.c (.int .i64 0)), .p (.c (.int .i64 0))] := by kernel_rfl
@[simp] theorem eqo155 : eqOk Tryd.prog 155 = true := by kernel_rfl
@[simp] theorem int155 : intT Tryd.prog 3 = true := by kernel_rfl
@[simp] theorem sz157 : szOf Tryd.prog 157 = some 3 := by kernel_rfl
@[simp] theorem ag157 : aggB Tryd.prog 157 = some true := by kernel_rfl
@[simp] theorem ei157 : eInfo Tryd.prog 157 = some (3, 24) := by kernel_rfl
@[simp] theorem ze157 : zeroA Tryd.prog 157 = some [.p (.c (.int .i64 0)), .p (.c (.int .i64 0)), .p (.c (.int .i64 0))] := by kernel_rfl
@[simp] theorem eqo157 : eqOk Tryd.prog 157 = true := by kernel_rfl
@[simp] theorem int157 : intT Tryd.prog 3 = true := by kernel_rfl
@[simp] theorem sz158 : szOf Tryd.prog 158 = some 10 := by kernel_rfl
@[simp] theorem ag158 : aggB Tryd.prog 158 = some true := by kernel_rfl
@[simp] theorem ei158 : eInfo Tryd.prog 158 = some (10, 160) := by kernel_rfl
@[simp] theorem ze158 : zeroA Tryd.prog 158 = some [.p (.c (.string ⟨#[]⟩)), .p (.c (.string ⟨#[]⟩)), .p (.c (.string ⟨#[]⟩)), .p (.c (.string ⟨#[]⟩)), .p (.c (.string ⟨#[]⟩)), .p (.c (.string ⟨#[]⟩)), .p (.c (.string ⟨#[]⟩)), .p (.c (.string ⟨#[]⟩)), .p (.c (.string ⟨#[]⟩)), .p (.c (.string ⟨#[]⟩))] := by kernel_rfl
attribute [simp] Tryd.underlying1 Tryd.underlying2 Tryd.underlying3 Tryd.underlying4 Tryd.underlying5 Tryd.underlying6 Tryd.underlying7 Tryd.underlying8 Tryd.underlying9 Tryd.underlying10 Tryd.underlying11 Tryd.underlying12 Tryd.underlying13 Tryd.underlying14 Tryd.underlying15 Tryd.underlying16 Tryd.underlying17 Tryd.underlying18 Tryd.underlying19 Tryd.underlying20 Tryd.underlying21 Tryd.underlying22 Tryd.underlying23 Tryd.underlying24 Tryd.underlying25 Tryd.underlying26 Tryd.underlying27 Tryd.underlying28 Tryd.underlying29 Tryd.underlying30 Tryd.underlying31 Tryd.underlying32 Tryd.underlying33 Tryd.underlying35 Tryd.underlying36 Tryd.underlying37 Tryd.underlying38 Tryd.underlying39 Tryd.underlying40 Tryd.underlying41 Tryd.underlying42 Tryd.underlying43 Tryd.underlying44 Tryd.underlying46 Tryd.underlying48 Tryd.underlying49 Tryd.underlying50 Tryd.underlying51 Tryd.underlying52 Tryd.underlying53 Tryd.underlying54 Tryd.underlying55 Tryd.underlying56 Tryd.underlying57 Tryd.underlying58 Tryd.underlying59 Tryd.underlying60 Tryd.underlying61 Tryd.underlying62 Tryd.underlying63 Tryd.underlying64 Tryd.underlying65 Tryd.underlying66 Tryd.underlying67 Tryd.underlying68 Tryd.underlying69 Tryd.underlying70 Tryd.underlying71 Tryd.underlying72 Tryd.underlying73 Tryd.underlying74 Tryd.underlying75 Tryd.underlying76 Tryd.underlying77 Tryd.underlying78 Tryd.underlying79 Tryd.underlying80 Tryd.underlying81 Tryd.underlying83 Tryd.underlying84 Tryd.underlying85 Tryd.underlying86 Tryd.underlying87 Tryd.underlying88 Tryd.underlying89 Tryd.underlying90 Tryd.underlying91 Tryd.underlying92 Tryd.underlying94 Tryd.underlying95 Tryd.underlying96 Tryd.underlying97 Tryd.underlying98 Tryd.underlying99 Tryd.underlying100 Tryd.underlying101 Tryd.underlying102 Tryd.underlying103 Tryd.underlying104 Tryd.underlying106 Tryd.underlying107 Tryd.underlying109 Tryd.underlying110 Tryd.underlying111 Tryd.underlying112 Tryd.underlying113 Tryd.underlying114 Tryd.underlying116 Tryd.underlying117 Tryd.underlying119 Tryd.underlying120 Tryd.underlying121 Tryd.underlying122 Tryd.underlying123 Tryd.underlying124 Tryd.underlying126 Tryd.underlying127 Tryd.underlying129 Tryd.underlying130 Tryd.underlying131 Tryd.underlying132 Tryd.underlying133 Tryd.underlying134 Tryd.underlying135 Tryd.underlying136 Tryd.underlying137 Tryd.underlying138 Tryd.underlying139 Tryd.underlying140 Tryd.underlying141 Tryd.underlying142 Tryd.underlying143 Tryd.underlying144 Tryd.underlying145 Tryd.underlying146 Tryd.underlying147 Tryd.underlying148 Tryd.underlying149 Tryd.underlying150 Tryd.underlying151 Tryd.underlying152 Tryd.underlying153 Tryd.underlying154 Tryd.underlying155 Tryd.underlying156 Tryd.underlying157 Tryd.underlying158 Tryd.underlying159 Tryd.underlying160 Tryd.underlying161 Tryd.underlying162 Tryd.underlying163 Tryd.underlying164 Tryd.underlying165 Tryd.underlying166 Tryd.underlying167 Tryd.underlying168 Tryd.underlying169 Tryd.underlying170 Tryd.underlying171 Tryd.underlying172 Tryd.underlying173
end Go.Proofs
end
section
set_option linter.all false
namespace Go.Hw
class TEnc (α : Type) [Enc α] where
 ot : α -> List OT
 olen : ∀ x, (ot x).length = Enc.sz α
 ocv : ∀ x, (ot x).map otCV = Enc.enc x
def otL {α : Type} [Enc α] [TEnc α] (l : List α) : List OT := l.flatMap TEnc.ot
theorem otCV_g : ∀ l : List OT, otCV.go l = l.map otCV
 | [] => rfl
 | t :: r => by rw [List.map_cons, otCV.go, otCV_g r]
theorem otA_cv (t : OT) : (otA t).cv = some (otCV t) := by cases t <;> rfl
theorem cvs_otA : ∀ l : List OT, cvs (l.map otA) = some (l.map otCV)
 | [] => rfl
 | t :: r => by rw [List.map_cons, cvs, otA_cv, cvs_otA r]; rfl
theorem otC_otA (t : OT) : otC (otA t) = some t := by cases t <;> rfl
theorem otCs_otA : ∀ l : List OT, otCs (l.map otA) = some l
 | [] => rfl
 | t :: r => by rw [List.map_cons, otCs, otC_otA, otCs_otA r]
instance {α : Type} [Enc α] [TEnc α] : OEnc α := ⟨fun x => (TEnc.ot x).map otA, fun x => by rw [List.length_map, TEnc.olen], fun x => by rw [cvs_otA, TEnc.ocv], fun x c hc => by
 obtain ⟨t, _, rfl⟩ := List.mem_map.1 hc
 cases t with
 | p c => exact .inl ⟨c, rfl⟩
 | sp a b c => exact .inr ⟨_, rfl⟩
 | sl a b c => exact .inr ⟨_, rfl⟩⟩
section
variable {α : Type} [Enc α] [TEnc α]
@[simp] theorem otL_nil : otL ([] : List α) = [] := rfl
theorem otL_cons (x : α) (l : List α) : otL (x :: l) = TEnc.ot x ++ otL l := rfl
@[simp] theorem otL_map (l : List α) : (otL l).map otA = oencL l := by
 induction l with
 | nil => rfl
 | cons x l ih => rw [otL_cons, List.map_append, ih]; rfl
@[simp] theorem oencL_takeN [Globals] (l : List α) {n : Nat} (h : Enc.sz α = n) : (oencL l).take (l.length * n) = oencL l := by
 subst h; exact List.take_of_length_le (by rw [oencL_length]; exact Nat.le_refl _)
@[simp] theorem oencL_otCs (l : List α) : otCs (oencL l) = some (otL l) := by rw [<- otL_map, otCs_otA]
theorem otL_cv (l : List α) : (otL l).map otCV = encL l := by
 induction l with
 | nil => rfl
 | cons x l ih => rw [otL_cons, List.map_append, ih, TEnc.ocv]; rfl
@[simp] theorem otL_go (l : List α) : otCV.go (otL l) = encL l := by rw [otCV_g, otL_cv]
end
end Go.Hw
end
section
set_option linter.all false
namespace Go.Hw
variable [Globals] {α : Type} [Enc α] [OEnc α]
/-- An element whose first c cells are deep. -/
def partL (c : Nat) (x : α) : List AC := (OEnc.oenc x).take c ++ ((Enc.enc x).map AC.p).drop c
def mixP (n c : Nat) (l : List α) : List AC := oencL (l.take n) ++ (((l.drop n).take 1).flatMap (partL c) ++ (encL (l.drop (n + 1))).map .p)
theorem AC_ren_oenc (x : α) (a b : Id) : (OEnc.oenc x).map (AC.ren a b) = OEnc.oenc x := by
 have := oencL_ren [x] a b; simpa using this
@[simp] theorem mixP_ren (n c : Nat) (l : List α) (x y : Id) : (mixP n c l).map (AC.ren x y) = mixP n c l := by
 unfold mixP
 rw [List.map_append, oencL_ren, List.map_append, List.map_map]
 congr 2
 rw [List.map_flatMap]
 congr 1; funext v
 unfold partL
 rw [List.map_append, List.map_take, AC_ren_oenc, List.map_drop, List.map_map]
 congr 1
end Go.Hw
end
section
set_option linter.all false
namespace Go.Hw
variable [Globals] {α : Type} [Enc α] [OEnc α]
/-- A row whose element n has the cells cs. -/
def frow (n : Nat) (cs : List AC) (l : List α) : List AC := oencL (l.take n) ++ (cs ++ oencL (l.drop (n + 1)))
section
variable (n : Nat) (cs : List AC) (l : List α)
theorem frow_map {f : AC -> AC} (h1 : ∀ v, f (.p v) = .p v) (h2 : ∀ t, f (.own t) = .own t) : (frow n cs l).map f = frow n (cs.map f) l := by
 unfold frow; rw [List.map_append, List.map_append, oencL_map _ _ h1 h2, oencL_map _ _ h1 h2]
@[simp] theorem frow_ren (x y : Id) : (frow n cs l).map (AC.ren x y) = frow n (cs.map (AC.ren x y)) l := frow_map n cs l (fun v => by simp) fun t => by simp
@[simp] theorem frow_kil (y : Id) : (frow n cs l).map (AC.kil y) = frow n (cs.map (AC.kil y)) l := frow_map n cs l (fun v => by simp) fun t => by simp
@[simp] theorem frow_frz (b : Id) (xs : List CV) : (frow n cs l).map (AC.frz b xs) = frow n (cs.map (AC.frz b xs)) l := frow_map n cs l (fun v => by simp) fun t => by simp
@[simp] theorem frow_unz : (frow n cs l).map AC.unz = frow n (cs.map AC.unz) l := frow_map n cs l (fun v => by simp) fun t => by simp
@[simp] theorem frow_toF (fp : List Id) : (frow n cs l).map (AC.toF fp) = frow n (cs.map (AC.toF fp)) l := frow_map n cs l (fun v => by simp) fun t => by simp
@[simp] theorem frow_back (fp bors : List Id) (post : List (Id × Blk)) (g i : Nat) : (frow n cs l).map (AC.back fp bors post g i) = frow n (cs.map (AC.back fp bors post g i)) l := frow_map n cs l (fun v => by simp) fun t => by simp
end
end Go.Hw
end
section
set_option linter.all false
namespace Go.Hw
variable [Globals]
theorem shft_t {b : Int} (h : (!(ltI b 0)) = true) : (b < 0) = False := by simpa [ltI] using h
theorem byteCV_enc (l : List UInt8) : bytesCV l = encL l := by
 induction l with
 | nil => rfl
 | cons x l ih => rw [encL_cons, <- ih]; rfl
theorem cellsBytes_enc (l : List UInt8) : cellsBytes (encL l) = some l := by
 induction l with
 | nil => rfl
 | cons x l ih =>
  rw [encL_cons]
  show (cellsBytes (encL l)).map (UInt8.ofNat (Int.toNat _) :: ·) = _
  rw [ih]; simp
attribute [simp] byteCV_enc cellsBytes_enc
/-- A string short enough to be laid out. -/
def strB3 (s : ByteArray) : Bool := decide (s.size <= 4611686018427387904)
theorem strB3_t {s : ByteArray} (h : strB3 s = true) : s.size <= 4611686018427387904 := by simpa [strB3] using h
@[simp] theorem ones8 : (if IntKind.u8.signed = true then (-1 : Int) else IntKind.u8.max) = 255 := rfl
@[simp] theorem ones32 : (if IntKind.u32.signed = true then (-1 : Int) else IntKind.u32.max) = 4294967295 := rfl
@[simp] theorem ones64 : (if IntKind.u64.signed = true then (-1 : Int) else IntKind.u64.max) = 18446744073709551615 := rfl
@[simp] theorem onesI : (if IntKind.i64.signed = true then (-1 : Int) else IntKind.i64.max) = -1 := rfl
/-- A byte out of a number. -/
def u8 (n : Int) : UInt8 := UInt8.ofNat n.toNat
theorem u8_wrap {n : Int} (h : 0 <= n) (h' : n < 256) : ((u8 n).toNat : Int) = n := by
 unfold u8
 rw [UInt8.toNat_ofNat']
 omega
@[simp] theorem u8_wr (n : Int) : ((u8 (IntKind.u8.wrap n)).toNat : Int) = IntKind.u8.wrap n := by
 refine u8_wrap ?_ ?_ <;> simp [IntKind.wrap, IntKind.bits, IntKind.signed] <;> omega
/-- Types whose cells are constants. -/
class FlatT (α : Type) [Enc α] : Prop where
 h : ∀ x : α, ∀ c ∈ Enc.enc x, c.isC = true
instance : FlatT UInt8 := ⟨fun x c h => by simp at h; subst h; rfl⟩
instance : FlatT Int := ⟨fun x c h => by simp at h; subst h; rfl⟩
instance : FlatT ByteArray := ⟨fun x c h => by simp at h; subst h; rfl⟩
theorem flat_all {α : Type} [Enc α] [FlatT α] (l : List α) : ∀ c ∈ encL l, c.isC = true := fun c h => by
 obtain ⟨x, _, hx⟩ := List.mem_flatMap.1 h
 exact FlatT.h x c hx
@[simp high] theorem flat_all1 {α : Type} [Enc α] [FlatT α] (l : List α) : (encL l).all CV.isC = true := List.all_eq_true.2 (flat_all l)
@[simp high] theorem flat_all2 {α : Type} [Enc α] [FlatT α] (l : List α) : Blk.flat (.pure (encL l)) = true := flat_all1 l
@[simp high] theorem flat_all3 {α : Type} [Enc α] [FlatT α] (l : List α) : (∀ x, x ∈ encL l -> (match x with | CV.c v => true | x => false) = true) = True := by
 simp only [eq_iff_iff, iff_true]
 intro x h
 have := flat_all l x h
 unfold CV.isC at this
 exact this
end Go.Hw
end
section
set_option linter.all false
namespace Go.Hw
variable [Globals] {P : Program} {Q : AX -> St -> Prop} {st : St}
/-- The state behind the toss. -/
def St.coin (st : St) (d1 d4 : Tmp) (b : Bool) : St :=
  { ({ st with gen := st.gen + 1, env := putE st.env (some d1) (.cell (.ref (.o (st.gen + 1) 0 0) 0)), hp := hput st.hp [(.o (st.gen + 1) 0 0, some (.cells [.p (.c (.bool b))]))] } : St) with
    env := putE (putE st.env (some d1) (.cell (.ref (.o (st.gen + 1) 0 0) 0))) (some d4) (bV b) }
theorem awp_oops {rid : Nat} {l : List Oper} (h : oops P (st.gen + 1) l.toArray (Q .normal) l.length (Array.replicate l.length false) { st with gen := st.gen + 1 }) : awp P (.region rid l.toArray true) Q st :=
 ⟨st, Gh.refl st, .inr (by simpa using h)⟩
theorem oops_coin {ops : Array Oper} {K : St -> Prop} {d1 d4 : Tmp} {t y0 y1 y2 y3 : TypeId} {p0 p1 p2 p3 : String} {a0 a1 a2 a3 : Array Edge}
  (g0 : ops[0]? = some ⟨some d1, .alloc t, y0, p0, a0, none⟩) (g1 : ops[1]? = some ⟨none, .store t (.tmp d1) (.const (.bool true)), y1, p1, a1, none⟩)
  (g2 : ops[2]? = some ⟨none, .store t (.tmp d1) (.const (.bool false)), y2, p2, a2, none⟩) (g3 : ops[3]? = some ⟨some d4, .load t (.tmp d1), y3, p3, a3, none⟩)
  (h0 : Region.ready .any ops #[false, false, false, false] = [0]) (h1 : Region.ready .any ops #[true, false, false, false] = [1, 2]) (h2 : Region.ready .any ops #[true, true, false, false] = [2])
  (h3 : Region.ready .any ops #[true, false, true, false] = [1]) (h4 : Region.ready .any ops #[true, true, true, false] = [3]) (h5 : Region.ready .any ops #[true, true, true, true] = [])
  (hz : zeroA P t = some [.p (.c (.bool false))]) (hs : szOf P t = some 1) (hb : aggB P t = false) (k : ∀ b, K (st.coin d1 d4 b)) :
  oops P (st.gen + 1) ops K 4 #[false, false, false, false] { st with gen := st.gen + 1 } := by
 have kt := k true; have kf := k false
 unfold St.coin at kt kf
 simp [oops, h0, h1, h2, h3, h4, h5, g0, g1, g2, g3, fop_alloc, hz, fop_store, storeK, evAV, putE, AV.cells?, hs, hput, St.app, St.put, setRun, constAV, constAC, fop_load, qload, partAC, hb]
 simp only [putE, hput] at kt kf
 have e : ∀ (x : Id) (u v w z : Option Blk), (if x = Id.o (st.gen + 1) 0 0 then u else if x = Id.o (st.gen + 1) 0 0 then v else if x = Id.o (st.gen + 1) 0 0 then w else z) = if x = Id.o (st.gen + 1) 0 0 then u else z := fun x u v w z => by split <;> rfl
 simp only [e]
 exact ⟨kf, kt⟩
/-- A toss: both ways are to be met. -/
theorem awp_coin {rid : Nat} {l : List Oper} {d1 d4 : Tmp} {t y0 y1 y2 y3 : TypeId} {p0 p1 p2 p3 : String} {a0 a1 a2 a3 : Array Edge}
  (hl : l = [⟨some d1, .alloc t, y0, p0, a0, none⟩, ⟨none, .store t (.tmp d1) (.const (.bool true)), y1, p1, a1, none⟩, ⟨none, .store t (.tmp d1) (.const (.bool false)), y2, p2, a2, none⟩, ⟨some d4, .load t (.tmp d1), y3, p3, a3, none⟩])
  (h0 : Region.ready .any l.toArray #[false, false, false, false] = [0]) (h1 : Region.ready .any l.toArray #[true, false, false, false] = [1, 2]) (h2 : Region.ready .any l.toArray #[true, true, false, false] = [2])
  (h3 : Region.ready .any l.toArray #[true, false, true, false] = [1]) (h4 : Region.ready .any l.toArray #[true, true, true, false] = [3]) (h5 : Region.ready .any l.toArray #[true, true, true, true] = [])
  (hz : zeroA P t = some [.p (.c (.bool false))]) (hs : szOf P t = some 1) (hb : aggB P t = false) (k : ∀ b, Q .normal (st.coin d1 d4 b)) : awp P (.region rid l.toArray true) Q st := by
 refine awp_oops ?_
 have e : l.length = 4 := by rw [hl]; rfl
 have r : Array.replicate 4 false = #[false, false, false, false] := rfl
 rw [e, r]
 exact oops_coin (by rw [hl]; rfl) (by rw [hl]; rfl) (by rw [hl]; rfl) (by rw [hl]; rfl) h0 h1 h2 h3 h4 h5 hz hs hb k
theorem St.coin_eq {st : St} {d1 d4 : Tmp} {b : Bool} : st.coin d1 d4 b = ((st.up.app [(.o (st.gen + 1) 0 0, some (.cells [.p (.c (.bool b))]))]).put (some d1) (.cell (.ref (.o (st.gen + 1) 0 0) 0))).put (some d4) (bV b) := rfl
@[simp] theorem pur_gen {b : Id} {s : St} : (s.pur b).gen = s.gen := by
 unfold St.pur
 split
 ·split <;> rfl
 ·rfl
@[simp] theorem stbOf_nil {x : Operand} {env : Nat -> AV} {hp : Id -> Option Blk} {out : AV} {b : Id} {v : Option Blk} : stbOf P (.nilCheck x) env hp out b v = (v.isSome = true /\ (hp b).isSome = true) := rfl
@[simp] theorem stbOf_fld {x : Operand} {env : Nat -> AV} {hp : Id -> Option Blk} {out : AV} {b : Id} {v : Option Blk} {t i : Nat} : stbOf P (.fieldAddr t x i) env hp out b v = (v.isSome = true /\ (hp b).isSome = true) := rfl
@[simp] theorem andB_1 (b : Bool) : andB true b = b := rfl
@[simp] theorem orB_0 (b : Bool) : orB false b = b := rfl
theorem coin_get {α : Type} {L : List α} {z : α} : (L ++ [z])[L.length]? = some z := by simp
theorem coin_set {α : Type} {L : List α} {z x : α} : (L ++ [z]).set L.length x = L ++ [x] := by simp
end Go.Hw
end
section
set_option linter.all false
namespace Go.Dc
open Go Go.Hw Go.Proofs
set_option maxRecDepth 100000
@[simp] theorem enc_Arr_7_Bool (x : Arr 7 Bool) : Enc.enc x = [.c (.bool (x.f 0)), .c (.bool (x.f 1)), .c (.bool (x.f 2)), .c (.bool (x.f 3)), .c (.bool (x.f 4)), .c (.bool (x.f 5)), .c (.bool (x.f 6))] := rfl
@[simp] theorem sz_Arr_7_Bool : Enc.sz (Arr 7 Bool) = 7 := rfl
@[simp] theorem enc_Arr_7_Int (x : Arr 7 Int) : Enc.enc x = [.c (.int .i64 (x.f 0)), .c (.int .i64 (x.f 1)), .c (.int .i64 (x.f 2)), .c (.int .i64 (x.f 3)), .c (.int .i64 (x.f 4)), .c (.int .i64 (x.f 5)), .c (.int .i64 (x.f 6))] := rfl
@[simp] theorem sz_Arr_7_Int : Enc.sz (Arr 7 Int) = 7 := rfl
structure InstRow where
 name : ByteArray
 uses : Arr 7 Bool
 deriving Inhabited
instance : Enc InstRow := ⟨8, fun x => [.c (.string x.name), .c (.bool (x.uses.f 0)), .c (.bool (x.uses.f 1)), .c (.bool (x.uses.f 2)), .c (.bool (x.uses.f 3)), .c (.bool (x.uses.f 4)), .c (.bool (x.uses.f 5)), .c (.bool (x.uses.f 6))], fun _ => rfl⟩
@[simp] theorem enc_InstRow (x : InstRow) : Enc.enc x = [.c (.string x.name), .c (.bool (x.uses.f 0)), .c (.bool (x.uses.f 1)), .c (.bool (x.uses.f 2)), .c (.bool (x.uses.f 3)), .c (.bool (x.uses.f 4)), .c (.bool (x.uses.f 5)), .c (.bool (x.uses.f 6))] := rfl
@[simp] theorem sz_InstRow : Enc.sz InstRow = 8 := rfl
structure Var where
 Name : ByteArray
 Init : Int
 deriving Inhabited
instance : Enc Var := ⟨2, fun x => [.c (.string x.Name), .c (.int .i64 x.Init)], fun _ => rfl⟩
@[simp] theorem enc_Var (x : Var) : Enc.enc x = [.c (.string x.Name), .c (.int .i64 x.Init)] := rfl
@[simp] theorem sz_Var : Enc.sz Var = 2 := rfl
structure Inst where
 Op : Int
 A : Int
 B : Int
 C : Int
 Obj : Int
 N : Int
 Fn : Int
 Order : Int
 deriving Inhabited
instance : Enc Inst := ⟨8, fun x => [.c (.int .i64 x.Op), .c (.int .i64 x.A), .c (.int .i64 x.B), .c (.int .i64 x.C), .c (.int .i64 x.Obj), .c (.int .i64 x.N), .c (.int .i64 x.Fn), .c (.int .i64 x.Order)], fun _ => rfl⟩
@[simp] theorem enc_Inst (x : Inst) : Enc.enc x = [.c (.int .i64 x.Op), .c (.int .i64 x.A), .c (.int .i64 x.B), .c (.int .i64 x.C), .c (.int .i64 x.Obj), .c (.int .i64 x.N), .c (.int .i64 x.Fn), .c (.int .i64 x.Order)] := rfl
@[simp] theorem sz_Inst : Enc.sz Inst = 8 := rfl
structure Func where
 Name : ByteArray
 Code : List Inst
 deriving Inhabited
instance : Enc Func := ⟨2, fun x => [.c (.string x.Name), .sl x.Code.length (encL x.Code)], fun _ => rfl⟩
@[simp] theorem enc_Func (x : Func) : Enc.enc x = [.c (.string x.Name), .sl x.Code.length (encL x.Code)] := rfl
@[simp] theorem sz_Func : Enc.sz Func = 2 := rfl
instance : OEnc Func := ⟨fun x => [.p (.c (.string x.Name)), .own (.sp 8 x.Code.length (encL x.Code))], fun _ => rfl, fun _ => rfl, fun x c hc => by simp at hc; rcases hc with rfl | rfl <;> first | exact .inl ⟨_, rfl⟩ | exact .inr ⟨_, rfl⟩⟩
@[simp] theorem oenc_Func (x : Func) : OEnc.oenc x = [.p (.c (.string x.Name)), .own (.sp 8 x.Code.length (encL x.Code))] := rfl
structure Start where
 Func : Int
 Arg : Int
 deriving Inhabited
instance : Enc Start := ⟨2, fun x => [.c (.int .i64 x.Func), .c (.int .i64 x.Arg)], fun _ => rfl⟩
@[simp] theorem enc_Start (x : Start) : Enc.enc x = [.c (.int .i64 x.Func), .c (.int .i64 x.Arg)] := rfl
@[simp] theorem sz_Start : Enc.sz Start = 2 := rfl
structure Program where
 Vars : List Var
 Mutexes : List ByteArray
 Conds : List ByteArray
 Funcs : List Func
 Threads : List Start
 deriving Inhabited
instance : Enc Program := ⟨5, fun x => [.sl x.Vars.length (encL x.Vars), .sl x.Mutexes.length (encL x.Mutexes), .sl x.Conds.length (encL x.Conds), .sl x.Funcs.length (encL x.Funcs), .sl x.Threads.length (encL x.Threads)], fun _ => rfl⟩
@[simp] theorem enc_Program (x : Program) : Enc.enc x = [.sl x.Vars.length (encL x.Vars), .sl x.Mutexes.length (encL x.Mutexes), .sl x.Conds.length (encL x.Conds), .sl x.Funcs.length (encL x.Funcs), .sl x.Threads.length (encL x.Threads)] := rfl
@[simp] theorem sz_Program : Enc.sz Program = 5 := rfl
structure Config where
 Model : Int
 Bound : Int
 deriving Inhabited
instance : Enc Config := ⟨2, fun x => [.c (.int .i64 x.Model), .c (.int .i64 x.Bound)], fun _ => rfl⟩
@[simp] theorem enc_Config (x : Config) : Enc.enc x = [.c (.int .i64 x.Model), .c (.int .i64 x.Bound)] := rfl
@[simp] theorem sz_Config : Enc.sz Config = 2 := rfl
structure ProgramPlace where
 fn : Int
 inst : Int
 deriving Inhabited
instance : Enc ProgramPlace := ⟨2, fun x => [.c (.int .i64 x.fn), .c (.int .i64 x.inst)], fun _ => rfl⟩
@[simp] theorem enc_ProgramPlace (x : ProgramPlace) : Enc.enc x = [.c (.int .i64 x.fn), .c (.int .i64 x.inst)] := rfl
@[simp] theorem sz_ProgramPlace : Enc.sz ProgramPlace = 2 := rfl
structure Tree where
 Agent : Int
 Kids : List Tree
 deriving Inhabited
mutual
def Tree.e : Tree -> List CV
 | ⟨a0, a1⟩ => [.c (.int .i64 a0), .sl a1.length (Tree.eL a1)]
def Tree.eL : List Tree -> List CV
 | [] => []
 | x :: l => Tree.e x ++ Tree.eL l
end
theorem Tree.e_eq (x : Tree) : Tree.e x = [.c (.int .i64 x.Agent), .sl x.Kids.length (Tree.eL x.Kids)] := by cases x; rw [Tree.e]
instance : Enc Tree := ⟨2, Tree.e, fun x => by rw [Tree.e_eq]; rfl⟩
theorem Tree.eL_eq : ∀ l : List Tree, Tree.eL l = encL l
 | [] => by rw [Tree.eL]; rfl
 | x :: l => by rw [Tree.eL, Tree.eL_eq l]; rfl
@[simp] theorem enc_Tree (x : Tree) : Enc.enc x = [.c (.int .i64 x.Agent), .sl x.Kids.length (encL x.Kids)] := by
 simp only [<- Tree.eL_eq]; exact Tree.e_eq x
@[simp] theorem sz_Tree : Enc.sz Tree = 2 := rfl
structure Frame where
 Agent : Int
 Sleep : List Int
 Tree : Tree
 deriving Inhabited
instance : Enc Frame := ⟨4, fun x => [.c (.int .i64 x.Agent), .sl x.Sleep.length (encL x.Sleep), .c (.int .i64 x.Tree.Agent), .sl x.Tree.Kids.length (encL x.Tree.Kids)], fun _ => rfl⟩
@[simp] theorem enc_Frame (x : Frame) : Enc.enc x = [.c (.int .i64 x.Agent), .sl x.Sleep.length (encL x.Sleep), .c (.int .i64 x.Tree.Agent), .sl x.Tree.Kids.length (encL x.Tree.Kids)] := rfl
@[simp] theorem sz_Frame : Enc.sz Frame = 4 := rfl
structure Snapshot where
 Frames : List Frame
 Done : Bool
 Count : Int
 Blocked : Int
 deriving Inhabited
instance : Enc Snapshot := ⟨4, fun x => [.sl x.Frames.length (encL x.Frames), .c (.bool x.Done), .c (.int .i64 x.Count), .c (.int .i64 x.Blocked)], fun _ => rfl⟩
@[simp] theorem enc_Snapshot (x : Snapshot) : Enc.enc x = [.sl x.Frames.length (encL x.Frames), .c (.bool x.Done), .c (.int .i64 x.Count), .c (.int .i64 x.Blocked)] := rfl
@[simp] theorem sz_Snapshot : Enc.sz Snapshot = 4 := rfl
structure CheckpointRest where
 bytes : List UInt8
 err : Int
 deriving Inhabited
instance : Enc CheckpointRest := ⟨2, fun x => [.sl x.bytes.length (encL x.bytes), .c (.int .i64 x.err)], fun _ => rfl⟩
@[simp] theorem enc_CheckpointRest (x : CheckpointRest) : Enc.enc x = [.sl x.bytes.length (encL x.bytes), .c (.int .i64 x.err)] := rfl
@[simp] theorem sz_CheckpointRest : Enc.sz CheckpointRest = 2 := rfl
instance : OEnc CheckpointRest := ⟨fun x => [.own (.sp 1 x.bytes.length (encL x.bytes)), .p (.c (.int .i64 x.err))], fun _ => rfl, fun _ => rfl, fun x c hc => by simp at hc; rcases hc with rfl | rfl <;> first | exact .inl ⟨_, rfl⟩ | exact .inr ⟨_, rfl⟩⟩
@[simp] theorem oenc_CheckpointRest (x : CheckpointRest) : OEnc.oenc x = [.own (.sp 1 x.bytes.length (encL x.bytes)), .p (.c (.int .i64 x.err))] := rfl
structure CheckpointDecoder where
 rest : CheckpointRest
 done : Int
 out : Snapshot
 deriving Inhabited
instance : Enc CheckpointDecoder := ⟨7, fun x => [.sl x.rest.bytes.length (encL x.rest.bytes), .c (.int .i64 x.rest.err), .c (.int .i64 x.done), .sl x.out.Frames.length (encL x.out.Frames), .c (.bool x.out.Done), .c (.int .i64 x.out.Count), .c (.int .i64 x.out.Blocked)], fun _ => rfl⟩
@[simp] theorem enc_CheckpointDecoder (x : CheckpointDecoder) : Enc.enc x = [.sl x.rest.bytes.length (encL x.rest.bytes), .c (.int .i64 x.rest.err), .c (.int .i64 x.done), .sl x.out.Frames.length (encL x.out.Frames), .c (.bool x.out.Done), .c (.int .i64 x.out.Count), .c (.int .i64 x.out.Blocked)] := rfl
@[simp] theorem sz_CheckpointDecoder : Enc.sz CheckpointDecoder = 7 := rfl
structure R26Job where
 Program : Program
 Config : Config
 Schedule : List Int
 deriving Inhabited
instance : Enc R26Job := ⟨8, fun x => [.sl x.Program.Vars.length (encL x.Program.Vars), .sl x.Program.Mutexes.length (encL x.Program.Mutexes), .sl x.Program.Conds.length (encL x.Program.Conds), .sl x.Program.Funcs.length (encL x.Program.Funcs), .sl x.Program.Threads.length (encL x.Program.Threads), .c (.int .i64 x.Config.Model), .c (.int .i64 x.Config.Bound), .sl x.Schedule.length (encL x.Schedule)], fun _ => rfl⟩
@[simp] theorem enc_R26Job (x : R26Job) : Enc.enc x = [.sl x.Program.Vars.length (encL x.Program.Vars), .sl x.Program.Mutexes.length (encL x.Program.Mutexes), .sl x.Program.Conds.length (encL x.Program.Conds), .sl x.Program.Funcs.length (encL x.Program.Funcs), .sl x.Program.Threads.length (encL x.Program.Threads), .c (.int .i64 x.Config.Model), .c (.int .i64 x.Config.Bound), .sl x.Schedule.length (encL x.Schedule)] := rfl
@[simp] theorem sz_R26Job : Enc.sz R26Job = 8 := rfl
def rowsTab : List InstRow := [⟨⟨#[99, 111, 110, 115, 116]⟩, Arr.of 7 [true, false, false, false, true, false, false]⟩, ⟨⟨#[99, 111, 112, 121]⟩, Arr.of 7 [true, true, false, false, false, false, false]⟩, ⟨⟨#[99, 97, 108, 99]⟩, Arr.of 7 [true, true, true, false, false, true, false]⟩, ⟨⟨#[106, 117, 109, 112]⟩, Arr.of 7 [false, false, false, false, true, false, false]⟩, ⟨⟨#[98, 114, 97, 110, 99, 104]⟩, Arr.of 7 [false, true, false, false, true, false, false]⟩, ⟨⟨#[97, 115, 115, 101, 114, 116]⟩, Arr.of 7 [false, true, false, false, false, false, false]⟩, ⟨⟨#[115, 116, 111, 112]⟩, Arr.of 7 [false, false, false, false, false, false, false]⟩, ⟨⟨#[108, 111, 97, 100]⟩, Arr.of 7 [true, false, false, true, false, false, true]⟩, ⟨⟨#[115, 116, 111, 114, 101]⟩, Arr.of 7 [false, true, false, true, false, false, true]⟩, ⟨⟨#[115, 119, 97, 112]⟩, Arr.of 7 [true, true, false, true, false, false, true]⟩, ⟨⟨#[102, 101, 116, 99, 104, 97, 100, 100]⟩, Arr.of 7 [true, true, false, true, false, false, true]⟩, ⟨⟨#[99, 97, 115]⟩, Arr.of 7 [true, true, true, true, false, false, true]⟩, ⟨⟨#[102, 101, 110, 99, 101]⟩, Arr.of 7 [false, false, false, false, false, false, false]⟩, ⟨⟨#[97, 119, 97, 105, 116]⟩, Arr.of 7 [true, true, false, true, false, true, true]⟩, ⟨⟨#[108, 111, 99, 107]⟩, Arr.of 7 [false, false, false, true, false, false, false]⟩, ⟨⟨#[117, 110, 108, 111, 99, 107]⟩, Arr.of 7 [false, false, false, true, false, false, false]⟩, ⟨⟨#[116, 114, 121, 108, 111, 99, 107]⟩, Arr.of 7 [true, false, false, true, false, false, false]⟩, ⟨⟨#[119, 97, 105, 116]⟩, Arr.of 7 [false, false, false, true, true, false, false]⟩, ⟨⟨#[115, 105, 103, 110, 97, 108]⟩, Arr.of 7 [false, false, false, true, false, false, false]⟩, ⟨⟨#[98, 114, 111, 97, 100, 99, 97, 115, 116]⟩, Arr.of 7 [false, false, false, true, false, false, false]⟩, ⟨⟨#[115, 112, 97, 119, 110]⟩, Arr.of 7 [true, true, false, true, false, false, false]⟩, ⟨⟨#[106, 111, 105, 110]⟩, Arr.of 7 [false, true, false, false, false, false, false]⟩]
def namesTab : List ByteArray := [⟨#[97, 100, 100]⟩, ⟨#[115, 117, 98]⟩, ⟨#[109, 117, 108]⟩, ⟨#[97, 110, 100]⟩, ⟨#[111, 114]⟩, ⟨#[120, 111, 114]⟩, ⟨#[101, 113]⟩, ⟨#[110, 101]⟩, ⟨#[108, 116]⟩, ⟨#[108, 101]⟩]
instance : Globals where
 G := fun g => if g = 0 then some (encL rowsTab) else if g = 1 then some (encL namesTab) else none
@[simp] theorem glob0 : Globals.G 0 = some (encL rowsTab) := rfl
@[simp] theorem glob1 : Globals.G 1 = some (encL namesTab) := rfl
end Go.Dc
end
section
set_option linter.all false
namespace Go.Dc
open Go Go.Hw Go.Proofs
set_option maxRecDepth 100000
def program_varNames_L1 : List Var -> (List ByteArray) -> Nat -> Option (List ByteArray)
 | [], l61, k62 => some (l61)
 | x84 :: q80, l61, k62 => Option.bind (some ([x84.Name])) (fun l87 => guardO (limB 16 (l61.length + l87.length)) (Option.bind (some (l61 ++ l87)) (fun l90 => program_varNames_L1 q80 l90 (k62 + 1))))
def program_varNames (a0 : Program) : Option (List ByteArray) :=
 Option.bind (α := (List ByteArray)) (Option.bind (program_varNames_L1 a0.Vars [] 0) (fun l73 => some (l73))) (fun l44 => some l44)
set_option maxHeartbeats 2000000 in
theorem at_program_varNames {a0 : Program} {r : (List ByteArray)} (hs : program_varNames a0 = some r) : At Tryd.prog 80 [.agg (eA a0)] (.cell (sC r)) := by
 refine at_bound (by kernel_rfl) fun hb => ?_
 have hb1 : LenOk (.sl a0.Vars.length (encL a0.Vars)) := lkc hb
 have hb2 : LenOk (.sl a0.Mutexes.length (encL a0.Mutexes)) := lkc hb
 have hb3 : LenOk (.sl a0.Conds.length (encL a0.Conds)) := lkc hb
 have hb4 : LenOk (.sl a0.Funcs.length (encL a0.Funcs)) := lkc hb
 have hb5 : LenOk (.sl a0.Threads.length (encL a0.Threads)) := lkc hb
 refine at_code mixed Tryd.func80 (by kernel_rfl) rfl (by kernel_rfl) rfl fun Q hQ => ?_
 rw [program_varNames] at hs
 refine goR2 f0 ?_
 revert hs; refine bK fun o46 e45 hs => ?_
 refine awp_cutK (fun (v : (List ByteArray)) (σ : St) => some (v) = some o46 /\ σ.env 3 = .cell (.sl (.l 2) 0 1 v.length) /\ σ.hp (.l 2) = some (.pure (encL v)) /\ 3 <= σ.gen) (by rfl) (fun Q hK47 hX48 => ?_) (fun l44 σ3 hp => ?_)
 ·refine goR f0 ?_
  revert e45; refine bK fun o75 e74 e45 => ?_
  refine awp_loopW (fun (v : (List Var) × (List ByteArray) × Nat) (σ : St) => program_varNames_L1 v.1 v.2.1 v.2.2 = some o75 /\ v.1 = a0.Vars.drop v.2.2 /\ σ.env 3 = .cell (.sl (.l 6) 0 1 v.2.1.length) /\ σ.env 7 = .cell (sC a0.Vars) /\ σ.env 8 = iV .i64 ((a0.Vars.length : Nat) : Int) /\ σ.env 9 = iV .i64 ((v.2.2 : Nat) : Int) /\ σ.hp (.l 6) = some (.pure (encL v.2.1)) /\ 3 <= σ.gen) (fun v => v.1.length) _ (Gh.void _ (.l 6) 3 1 rfl (by simp)) (a0.Vars, [], 0) ⟨e74, by simp, pv f0, pv f0, pv f0, pv f0, pv f0, pg⟩ fun v σ6 hp L76 hL77 => ?_
  obtain ⟨q79, l61, k62⟩ := v
  dsimp only at hp hL77
  obtain ⟨e74, hd78, h5_3, h5_7, h5_8, h5_9, g5_0, n5_g⟩ := hp
  rcases q79 with _ | ⟨x84, q80⟩
  ·have hlt81 := drop_end hd78
   rw [program_varNames_L1] at e74; try dsimp only at e74
   have F1 := an h5_3 (an h5_7 (an h5_8 (an h5_9 g5_0)))
   refine goR F1 ?_
   refine condK_f (by simp [ltI]; omega) ?_
   obtain rfl := sj e74
   try dsimp only at e45
   exact hK47 l61 _ _ (Gh.ren _ (.l 6) (.l 2) (by simp) rfl rfl) ⟨e45, pv F1, pv F1, pg⟩
  ·obtain ⟨hx83, hlt81, hd85⟩ := drop_next hd78
   have ew82 := wrap_succ hlt81 (hb1).len
   rw [program_varNames_L1] at e74; try dsimp only at e74
   have F2 := an h5_3 (an h5_7 (an h5_8 (an h5_9 (an g5_0 (an hlt81 ew82)))))
   refine goR F2 ?_
   refine condK_t (by simp [ltI]; omega) ?_
   have f86 : partCV Tryd.prog 66 (encL a0.Vars) (k62 * 2) = some (.agg (eA x84)) := partCV_enc hx83 (f := 0) (by simp)
   revert e74; refine lK fun l87 hx88 e74 => ?_
   have hx88n : l87.length = 1 := by rw [hx88]; rfl
   obtain ⟨g89, e74⟩ := guardO_some e74
   have g89 := limB_t g89
   obtain ⟨g89a, g89b⟩ := g89
   revert e74; refine lK fun l90 hx91 e74 => ?_
   have hx91n : l90.length = (l61.length + l87.length) := by rw [hx91]; simp
   have hx91e : encL l90 = encL l61 ++ encL l87 := by rw [hx91]; simp
   have F3 := an F2 (an f86 (an hx88 (an hx91n hx91e)))
   refine goR F3 ?_
   exact hL77 (q80, l90, (k62 + 1)) _ _ (Gh.ren _ (.o (σ6.gen + 3) 4 0) (.l 6) (by simp) rfl rfl) ⟨e74, hd85, pv F3, pv F3, pv F3, pv F3, pv F3, pg⟩ (by simp)
 ·obtain ⟨e45, h4_3, g4_0, n4_g⟩ := hp
  obtain rfl := sj e45
  try dsimp only at hs
  have F4 := an h4_3 g4_0
  refine goR F4 ?_
  obtain rfl := sj hs
  exact hQ _ _ (rg F4 (Gh.frz _ (.l 2)))
end Go.Dc
end
section
set_option linter.all false
namespace Go.Dc
open Go Go.Hw Go.Proofs
set_option maxRecDepth 100000
def program_letter (a0 : UInt8) : Option Bool :=
 some (orB (andB (!(ltI (a0.toNat : Int) 97)) (!(ltI 122 (a0.toNat : Int)))) (andB (!(ltI (a0.toNat : Int) 65)) (!(ltI 90 (a0.toNat : Int)))))
set_option maxHeartbeats 2000000 in
theorem at_program_letter {a0 : UInt8} {r : Bool} (hs : program_letter a0 = some r) : At Tryd.prog 98 [iV .u8 (a0.toNat : Int)] (bV r) := by
 refine at_bound (by kernel_rfl) fun hb => ?_
 refine at_code mixed Tryd.func98 (by kernel_rfl) rfl (by kernel_rfl) rfl fun Q hQ => ?_
 rw [program_letter] at hs
 refine goG f0 f0 ?_
 obtain rfl := sj hs
 exact hQ _ _ (rg f0 (Gh.refl _))
end Go.Dc
end
section
set_option linter.all false
namespace Go.Dc
open Go Go.Hw Go.Proofs
set_option maxRecDepth 100000
def program_ValidName_L1 (a0 : ByteArray) : Nat -> Nat -> Option (Unit ⊕ Bool)
 | 0, k49 => some (.inl ())
 | q63 + 1, k49 => Option.bind (a0[k49]?) (fun c68 => Option.bind (program_letter c68) (fun y70 => cond (andB (andB (!y70) (!(eqI (c68.toNat : Int) 95))) (orB (ltI (c68.toNat : Int) 48) (ltI 57 (c68.toNat : Int)))) (some (.inr false)) (program_ValidName_L1 a0 q63 (k49 + 1))))
def program_ValidName (a0 : ByteArray) : Option Bool :=
 guardO (orB (!(!(orB (ltI ((a0.size : Nat) : Int) 1) (ltI 16 ((a0.size : Nat) : Int))))) (inB ((0 : Nat) : Int) a0.size)) (guardO (orB (!(!(orB (ltI ((a0.size : Nat) : Int) 1) (ltI 16 ((a0.size : Nat) : Int))))) ((program_letter (bget a0 0)).isSome)) (cond (orB (orB (ltI ((a0.size : Nat) : Int) 1) (ltI 16 ((a0.size : Nat) : Int))) (!((program_letter (bget a0 0)).getD default))) (some false) (Option.bind (α := Unit ⊕ Bool) (guardO (lenB a0.size) (Option.bind (program_ValidName_L1 a0 a0.size 0) (fun o => match o with | .inl _ => some (.inl ()) | .inr r73 => some (.inr r73)))) (fun o => match o with | .inl _ => some true | .inr r74 => some r74))))
set_option maxHeartbeats 2000000 in
theorem at_program_ValidName {a0 : ByteArray} {r : Bool} (hs : program_ValidName a0 = some r) : At Tryd.prog 92 [sV a0] (bV r) := by
 refine at_bound (by kernel_rfl) fun hb => ?_
 refine at_code mixed Tryd.func92 (by kernel_rfl) rfl (by kernel_rfl) rfl fun Q hQ => ?_
 rw [program_ValidName] at hs
 obtain ⟨g1, hs⟩ := guardO_some hs
 have g1a : (!(orB (ltI ((a0.size : Nat) : Int) 1) (ltI 16 ((a0.size : Nat) : Int)))) = true -> 0 <= ((0 : Nat) : Int) := fun hg => (under_byte g1 hg).1
 have g1c : (!(orB (ltI ((a0.size : Nat) : Int) 1) (ltI 16 ((a0.size : Nat) : Int)))) = true -> a0[0]? = some (bget a0 0) := fun hg => by simpa using (under_byte g1 hg).2.2
 have F1 := an g1a g1c
 refine goG F1 F1 ?_
 obtain ⟨g2, hs⟩ := guardO_some hs
 refine gsel_call (fun hg => at_program_letter (under_call g2 hg)) (fun hg => by (try simp at hg); (first | simp [hg, F1]); try rfl) (fun hg => by (try simp at hg); simp [hg, F1]) (by simp) ?_
 refine goG F1 F1 ?_
 revert hs; refine cS F1 ?_ ?_ <;> intro h3 hs
 ·refine goG F1 F1 ?_
  obtain rfl := sj hs
  exact hQ _ _ (rg F1 (Gh.refl _))
 ·refine goG2 F1 F1 ?_
  revert hs; refine bK fun o38 e37 hs => ?_
  refine awp_cutK (fun (v : Unit) (σ : St) => some (.inl v) = some o38 /\ 3 <= σ.gen) (by rfl) (fun Q hK39 hX40 => ?_) (fun v σ3 hp => ?_)
  ·refine goG F1 F1 ?_
   obtain ⟨hb67, e37⟩ := guardO_some e37
   revert e37; refine bK fun o58 e57 e37 => ?_
   refine awp_loopW (fun (v : Nat × Nat) (σ : St) => program_ValidName_L1 a0 v.1 v.2 = some o58 /\ v.1 + v.2 = a0.size /\ σ.env 0 = sV a0 /\ σ.env 19 = iV .i64 ((a0.size : Nat) : Int) /\ σ.env 20 = iV .i64 ((v.2 : Nat) : Int) /\ 3 <= σ.gen) (fun v => v.1) _ (Gh.refl _) (a0.size, 0) ⟨e57, by first | omega | simp | (simp; omega), pv F1, pv F1, pv F1, pg⟩ fun v σ6 hp L59 hL60 => ?_
   obtain ⟨q62, k49⟩ := v
   dsimp only at hp hL60
   obtain ⟨e57, hd61, h5_0, h5_19, h5_20, n5_g⟩ := hp
   rcases q62 with _ | q63
   ·have hlt64 : ¬ k49 < a0.size := by omega
    rw [program_ValidName_L1] at e57; try dsimp only at e57
    have F2 := an h5_0 (an h5_19 (an h5_20 (an g1a g1c)))
    refine goR F2 ?_
    refine condK_f (by simp [ltI]; omega) ?_
    obtain rfl := sj e57
    try dsimp only at e37
    exact hK39 () _ _ (Gh.refl _) ⟨e37, pg⟩
   ·have hlt64 : k49 < a0.size := by omega
    have ew65 := wrap_succG hlt64 hb67
    rw [program_ValidName_L1] at e57; try dsimp only at e57
    have F3 := an h5_0 (an h5_19 (an h5_20 (an g1a (an g1c (an hlt64 ew65)))))
    refine goR F3 ?_
    refine condK_t (by simp [ltI]; omega) ?_
    revert e57; refine bK fun c68 hx69 e57 => ?_
    have hx69b := getB_some hx69
    have hx69g := getB_eq hx69
    have F4 := an F3 (an hx69 hx69g)
    refine goR F4 ?_
    revert e57; refine bK fun y70 hx71 e57 => ?_
    refine cP F4 (at_program_letter hx71) ?_
    refine goG F4 F4 ?_
    revert e57; refine cS F4 ?_ ?_ <;> intro h72 e57
    ·refine goG F4 F4 ?_
     obtain rfl := sj e57
     try dsimp only at e37
     obtain rfl := sj e37
     try dsimp only at hs
     refine hX40 _ _ (by simp) ?_
     refine goG F4 F4 ?_
     obtain rfl := sj hs
     exact hQ _ _ (rg F4 (Gh.refl _))
    ·refine goG F4 F4 ?_
     exact hL60 (q63, (k49 + 1)) _ _ (Gh.refl _) ⟨e57, (by first | omega | (simp; omega)), pv F4, pv F4, pv F4, pg⟩ (by omega)
  ·obtain ⟨e37, n4_g⟩ := hp
   obtain rfl := sj e37
   try dsimp only at hs
   refine goG F1 F1 ?_
   obtain rfl := sj hs
   exact hQ _ _ (rg F1 (Gh.refl _))
end Go.Dc
end
section
set_option linter.all false
namespace Go.Dc
open Go Go.Hw Go.Proofs
set_option maxRecDepth 100000
def slices_Index_string_L1 (a1 : ByteArray) : List ByteArray -> Nat -> Option (Unit ⊕ Int)
 | [], k41 => some (.inl ())
 | x58 :: q54, k41 => cond (eqS a1 x58) (some (.inr ((k41 : Nat) : Int))) (slices_Index_string_L1 a1 q54 (k41 + 1))
def slices_Index_string (a0 : List ByteArray) (a1 : ByteArray) : Option Int :=
 Option.bind (α := Unit ⊕ Int) (Option.bind (slices_Index_string_L1 a1 a0 0) (fun o => match o with | .inl _ => some (.inl ()) | .inr r62 => some (.inr r62))) (fun o => match o with | .inl _ => some (-1) | .inr r63 => some r63)
set_option maxHeartbeats 2000000 in
theorem at_slices_Index_string {a0 : List ByteArray} {a1 : ByteArray} {r : Int} (hs : slices_Index_string a0 a1 = some r) : At Tryd.prog 99 [.cell (sC a0), sV a1] (iV .i64 r) := by
 refine at_bound (by kernel_rfl) fun hb => ?_
 have hb1 : LenOk (.sl a0.length (encL a0)) := lkc hb
 refine at_code mixed Tryd.func99 (by kernel_rfl) rfl (by kernel_rfl) rfl fun Q hQ => ?_
 rw [slices_Index_string] at hs
 refine goR2 f0 ?_
 revert hs; refine bK fun o31 e30 hs => ?_
 refine awp_cutK (fun (v : Unit) (σ : St) => some (.inl v) = some o31 /\ 2 <= σ.gen) (by rfl) (fun Q hK32 hX33 => ?_) (fun v σ3 hp => ?_)
 ·refine goR f0 ?_
  revert e30; refine bK fun o49 e48 e30 => ?_
  refine awp_loopW (fun (v : (List ByteArray) × Nat) (σ : St) => slices_Index_string_L1 a1 v.1 v.2 = some o49 /\ v.1 = a0.drop v.2 /\ σ.env 0 = .cell (sC a0) /\ σ.env 1 = sV a1 /\ σ.env 7 = iV .i64 ((a0.length : Nat) : Int) /\ σ.env 8 = iV .i64 ((v.2 : Nat) : Int) /\ 2 <= σ.gen) (fun v => v.1.length) _ (Gh.refl _) (a0, 0) ⟨e48, by simp, pv f0, pv f0, pv f0, pv f0, pg⟩ fun v σ6 hp L50 hL51 => ?_
  obtain ⟨q53, k41⟩ := v
  dsimp only at hp hL51
  obtain ⟨e48, hd52, h5_0, h5_1, h5_7, h5_8, n5_g⟩ := hp
  rcases q53 with _ | ⟨x58, q54⟩
  ·have hlt55 := drop_end hd52
   rw [slices_Index_string_L1] at e48; try dsimp only at e48
   have F1 := an h5_0 (an h5_1 (an h5_7 h5_8))
   refine goR F1 ?_
   refine condK_f (by simp [ltI]; omega) ?_
   obtain rfl := sj e48
   try dsimp only at e30
   exact hK32 () _ _ (Gh.refl _) ⟨e30, pg⟩
  ·obtain ⟨hx57, hlt55, hd59⟩ := drop_next hd52
   have ew56 := wrap_succ hlt55 (hb1).len
   rw [slices_Index_string_L1] at e48; try dsimp only at e48
   have F2 := an h5_0 (an h5_1 (an h5_7 (an h5_8 (an hlt55 ew56))))
   refine goR F2 ?_
   refine condK_t (by simp [ltI]; omega) ?_
   have f60 : partCV Tryd.prog 9 (encL a0) (k41) = some (sV x58) := partCV_enc1 hx57 (by simp)
   have F3 := an F2 f60
   refine goR F3 ?_
   revert e48; refine cS F3 ?_ ?_ <;> intro h61 e48
   ·refine goR F3 ?_
    obtain rfl := sj e48
    try dsimp only at e30
    obtain rfl := sj e30
    try dsimp only at hs
    refine hX33 _ _ (by simp) ?_
    refine goR F3 ?_
    obtain rfl := sj hs
    exact hQ _ _ (rg F3 (Gh.refl _))
   ·refine goR F3 ?_
    exact hL51 (q54, (k41 + 1)) _ _ (Gh.refl _) ⟨e48, hd59, pv F3, pv F3, pv F3, pv F3, pg⟩ (by simp)
 ·obtain ⟨e30, n4_g⟩ := hp
  obtain rfl := sj e30
  try dsimp only at hs
  refine goR f0 ?_
  obtain rfl := sj hs
  exact hQ _ _ (rg f0 (Gh.refl _))
end Go.Dc
end
section
set_option linter.all false
namespace Go.Dc
open Go Go.Hw Go.Proofs
set_option maxRecDepth 100000
def slices_Contains_string (a0 : List ByteArray) (a1 : ByteArray) : Option Bool :=
 Option.bind (slices_Index_string a0 a1) (fun y1 => some (!(ltI y1 0)))
set_option maxHeartbeats 2000000 in
theorem at_slices_Contains_string {a0 : List ByteArray} {a1 : ByteArray} {r : Bool} (hs : slices_Contains_string a0 a1 = some r) : At Tryd.prog 93 [.cell (sC a0), sV a1] (bV r) := by
 refine at_bound (by kernel_rfl) fun hb => ?_
 have hb1 : LenOk (.sl a0.length (encL a0)) := lkc hb
 refine at_code mixed Tryd.func93 (by kernel_rfl) rfl (by kernel_rfl) rfl fun Q hQ => ?_
 rw [slices_Contains_string] at hs
 refine goR f0 ?_
 revert hs; refine bK fun y1 hx2 hs => ?_
 refine cP f0 (at_slices_Index_string hx2) ?_
 refine goR f0 ?_
 obtain rfl := sj hs
 exact hQ _ _ (rg f0 (Gh.refl _))
end Go.Dc
end
section
set_option linter.all false
namespace Go.Dc
open Go Go.Hw Go.Proofs
set_option maxRecDepth 100000
def program_names_L1 (a0 : List ByteArray) : List ByteArray -> Nat -> Option (Unit ⊕ (Int × Int))
 | [], k77 => some (.inl ())
 | x103 :: q99, k77 => Option.bind (program_ValidName x103) (fun y106 => cond (!y106) (some (.inr (6, ((k77 : Nat) : Int)))) (guardO (slB 0 ((k77 : Nat) : Int) a0.length) (Option.bind (some (subL a0 0 ((k77 : Nat) : Int))) (fun l110 => Option.bind (slices_Contains_string l110 x103) (fun y113 => cond y113 (some (.inr (7, ((k77 : Nat) : Int)))) (program_names_L1 a0 q99 (k77 + 1)))))))
def program_names (a0 : List ByteArray) : Option (Int × Int) :=
 Option.bind (α := Unit ⊕ (Int × Int)) (Option.bind (program_names_L1 a0 a0 0) (fun o => match o with | .inl _ => some (.inl ()) | .inr r116 => some (.inr r116))) (fun o => match o with | .inl _ => some (0, (-1)) | .inr r117 => some r117)
set_option maxHeartbeats 2000000 in
theorem at_program_names {a0 : List ByteArray} {r : Int × Int} (hs : program_names a0 = some r) : At Tryd.prog 81 [.cell (sC a0)] (.tup [iV .i64 r.1, iV .i64 r.2]) := by
 refine at_bound (by kernel_rfl) fun hb => ?_
 have hb1 : LenOk (.sl a0.length (encL a0)) := lkc hb
 refine at_code mixed Tryd.func81 (by kernel_rfl) rfl (by kernel_rfl) rfl fun Q hQ => ?_
 rw [program_names] at hs
 refine goR2 f0 ?_
 revert hs; refine bK fun o58 e57 hs => ?_
 refine awp_cutK (fun (v : Unit) (σ : St) => some (.inl v) = some o58 /\ 2 <= σ.gen) (by rfl) (fun Q hK59 hX60 => ?_) (fun v σ3 hp => ?_)
 ·refine goR f0 ?_
  revert e57; refine bK fun o94 e93 e57 => ?_
  refine awp_loopW (fun (v : (List ByteArray) × Nat) (σ : St) => program_names_L1 a0 v.1 v.2 = some o94 /\ v.1 = a0.drop v.2 /\ σ.env 0 = .cell (sC a0) /\ σ.env 6 = .cell (sC a0) /\ σ.env 7 = iV .i64 ((a0.length : Nat) : Int) /\ σ.env 8 = iV .i64 ((v.2 : Nat) : Int) /\ 2 <= σ.gen) (fun v => v.1.length) _ (Gh.refl _) (a0, 0) ⟨e93, by simp, pv f0, pv f0, pv f0, pv f0, pg⟩ fun v σ6 hp L95 hL96 => ?_
  obtain ⟨q98, k77⟩ := v
  dsimp only at hp hL96
  obtain ⟨e93, hd97, h5_0, h5_6, h5_7, h5_8, n5_g⟩ := hp
  rcases q98 with _ | ⟨x103, q99⟩
  ·have hlt100 := drop_end hd97
   rw [program_names_L1] at e93; try dsimp only at e93
   have F1 := an h5_0 (an h5_6 (an h5_7 h5_8))
   refine goR F1 ?_
   refine condK_f (by simp [ltI]; omega) ?_
   obtain rfl := sj e93
   try dsimp only at e57
   exact hK59 () _ _ (Gh.refl _) ⟨e57, pg⟩
  ·obtain ⟨hx102, hlt100, hd104⟩ := drop_next hd97
   have ew101 := wrap_succ hlt100 (hb1).len
   rw [program_names_L1] at e93; try dsimp only at e93
   have F2 := an h5_0 (an h5_6 (an h5_7 (an h5_8 (an hlt100 ew101))))
   refine goR F2 ?_
   refine condK_t (by simp [ltI]; omega) ?_
   have f105 : partCV Tryd.prog 9 (encL a0) (k77) = some (sV x103) := partCV_enc1 hx102 (by simp)
   have F3 := an F2 f105
   refine goR F3 ?_
   revert e93; refine bK fun y106 hx107 e93 => ?_
   refine cP F3 (at_program_ValidName hx107) ?_
   refine goR F3 ?_
   revert e93; refine cS F3 ?_ ?_ <;> intro h108 e93
   ·refine goR F3 ?_
    obtain rfl := sj e93
    try dsimp only at e57
    obtain rfl := sj e57
    try dsimp only at hs
    refine hX60 _ _ (by simp) ?_
    refine goR F3 ?_
    obtain rfl := sj hs
    exact hQ _ _ (rg F3 (Gh.refl _))
   ·obtain ⟨g109, e93⟩ := guardO_some e93
    obtain ⟨g109a, g109b, g109c⟩ := slB_t g109
    revert e93; refine lK fun l110 hx111 e93 => ?_
    have f112n : l110.length = (((k77 : Nat) : Int) - 0).toNat := by rw [hx111]; exact subL_len ⟨g109a, g109b, g109c⟩
    have f112e : ((encL a0).drop ((0 : Int).toNat * 1)).take ((((k77 : Nat) : Int) - 0).toNat * 1) = encL l110 := by rw [hx111]; exact subL_enc (α := ByteArray)
    try simp at f112n
    try simp at f112e
    have f112o : LenOk (.sl l110.length (encL l110)) := by rw [hx111]; exact subL_ok hb1
    have F4 := an F3 (an g109a (an g109b (an g109c (an f112n f112e))))
    refine goR F4 ?_
    revert e93; refine bK fun y113 hx114 e93 => ?_
    refine cP F4 (at_slices_Contains_string hx114) ?_
    refine goR F4 ?_
    revert e93; refine cS F4 ?_ ?_ <;> intro h115 e93
    ·refine goR F4 ?_
     obtain rfl := sj e93
     try dsimp only at e57
     obtain rfl := sj e57
     try dsimp only at hs
     refine hX60 _ _ (by simp) ?_
     refine goR F4 ?_
     obtain rfl := sj hs
     exact hQ _ _ (rg F4 (Gh.refl _))
    ·refine goR F4 ?_
     exact hL96 (q99, (k77 + 1)) _ _ (Gh.refl _) ⟨e93, hd104, pv F4, pv F4, pv F4, pv F4, pg⟩ (by simp)
 ·obtain ⟨e57, n4_g⟩ := hp
  obtain rfl := sj e57
  try dsimp only at hs
  refine goR f0 ?_
  obtain rfl := sj hs
  exact hQ _ _ (rg f0 (Gh.refl _))
end Go.Dc
end
section
set_option linter.all false
namespace Go.Dc
open Go Go.Hw Go.Proofs
set_option maxRecDepth 100000
def program_funcNames_L1 : List Func -> (List ByteArray) -> Nat -> Option (List ByteArray)
 | [], l61, k62 => some (l61)
 | x84 :: q80, l61, k62 => Option.bind (some ([x84.Name])) (fun l87 => guardO (limB 16 (l61.length + l87.length)) (Option.bind (some (l61 ++ l87)) (fun l90 => program_funcNames_L1 q80 l90 (k62 + 1))))
def program_funcNames (a0 : Program) : Option (List ByteArray) :=
 Option.bind (α := (List ByteArray)) (Option.bind (program_funcNames_L1 a0.Funcs [] 0) (fun l73 => some (l73))) (fun l44 => some l44)
set_option maxHeartbeats 2000000 in
theorem at_program_funcNames {a0 : Program} {r : (List ByteArray)} (hs : program_funcNames a0 = some r) : At Tryd.prog 82 [.agg (eA a0)] (.cell (sC r)) := by
 refine at_bound (by kernel_rfl) fun hb => ?_
 have hb1 : LenOk (.sl a0.Vars.length (encL a0.Vars)) := lkc hb
 have hb2 : LenOk (.sl a0.Mutexes.length (encL a0.Mutexes)) := lkc hb
 have hb3 : LenOk (.sl a0.Conds.length (encL a0.Conds)) := lkc hb
 have hb4 : LenOk (.sl a0.Funcs.length (encL a0.Funcs)) := lkc hb
 have hb5 : LenOk (.sl a0.Threads.length (encL a0.Threads)) := lkc hb
 refine at_code mixed Tryd.func82 (by kernel_rfl) rfl (by kernel_rfl) rfl fun Q hQ => ?_
 rw [program_funcNames] at hs
 refine goR2 f0 ?_
 revert hs; refine bK fun o46 e45 hs => ?_
 refine awp_cutK (fun (v : (List ByteArray)) (σ : St) => some (v) = some o46 /\ σ.env 3 = .cell (.sl (.l 2) 0 1 v.length) /\ σ.hp (.l 2) = some (.pure (encL v)) /\ 3 <= σ.gen) (by rfl) (fun Q hK47 hX48 => ?_) (fun l44 σ3 hp => ?_)
 ·refine goR f0 ?_
  revert e45; refine bK fun o75 e74 e45 => ?_
  refine awp_loopW (fun (v : (List Func) × (List ByteArray) × Nat) (σ : St) => program_funcNames_L1 v.1 v.2.1 v.2.2 = some o75 /\ v.1 = a0.Funcs.drop v.2.2 /\ σ.env 3 = .cell (.sl (.l 6) 0 1 v.2.1.length) /\ σ.env 7 = .cell (sC a0.Funcs) /\ σ.env 8 = iV .i64 ((a0.Funcs.length : Nat) : Int) /\ σ.env 9 = iV .i64 ((v.2.2 : Nat) : Int) /\ σ.hp (.l 6) = some (.pure (encL v.2.1)) /\ 3 <= σ.gen) (fun v => v.1.length) _ (Gh.void _ (.l 6) 3 1 rfl (by simp)) (a0.Funcs, [], 0) ⟨e74, by simp, pv f0, pv f0, pv f0, pv f0, pv f0, pg⟩ fun v σ6 hp L76 hL77 => ?_
  obtain ⟨q79, l61, k62⟩ := v
  dsimp only at hp hL77
  obtain ⟨e74, hd78, h5_3, h5_7, h5_8, h5_9, g5_0, n5_g⟩ := hp
  rcases q79 with _ | ⟨x84, q80⟩
  ·have hlt81 := drop_end hd78
   rw [program_funcNames_L1] at e74; try dsimp only at e74
   have F1 := an h5_3 (an h5_7 (an h5_8 (an h5_9 g5_0)))
   refine goR F1 ?_
   refine condK_f (by simp [ltI]; omega) ?_
   obtain rfl := sj e74
   try dsimp only at e45
   exact hK47 l61 _ _ (Gh.ren _ (.l 6) (.l 2) (by simp) rfl rfl) ⟨e45, pv F1, pv F1, pg⟩
  ·obtain ⟨hx83, hlt81, hd85⟩ := drop_next hd78
   have ew82 := wrap_succ hlt81 (hb4).len
   rw [program_funcNames_L1] at e74; try dsimp only at e74
   have F2 := an h5_3 (an h5_7 (an h5_8 (an h5_9 (an g5_0 (an hlt81 ew82)))))
   refine goR F2 ?_
   refine condK_t (by simp [ltI]; omega) ?_
   have f86 : partCV Tryd.prog 56 (encL a0.Funcs) (k62 * 2) = some (.agg (eA x84)) := partCV_enc hx83 (f := 0) (by simp)
   revert e74; refine lK fun l87 hx88 e74 => ?_
   have hx88n : l87.length = 1 := by rw [hx88]; rfl
   obtain ⟨g89, e74⟩ := guardO_some e74
   have g89 := limB_t g89
   obtain ⟨g89a, g89b⟩ := g89
   revert e74; refine lK fun l90 hx91 e74 => ?_
   have hx91n : l90.length = (l61.length + l87.length) := by rw [hx91]; simp
   have hx91e : encL l90 = encL l61 ++ encL l87 := by rw [hx91]; simp
   have F3 := an F2 (an f86 (an hx88 (an hx91n hx91e)))
   refine goR F3 ?_
   exact hL77 (q80, l90, (k62 + 1)) _ _ (Gh.ren _ (.o (σ6.gen + 3) 4 0) (.l 6) (by simp) rfl rfl) ⟨e74, hd85, pv F3, pv F3, pv F3, pv F3, pv F3, pg⟩ (by simp)
 ·obtain ⟨e45, h4_3, g4_0, n4_g⟩ := hp
  obtain rfl := sj e45
  try dsimp only at hs
  have F4 := an h4_3 g4_0
  refine goR F4 ?_
  obtain rfl := sj hs
  exact hQ _ _ (rg F4 (Gh.frz _ (.l 2)))
end Go.Dc
end
section
set_option linter.all false
namespace Go.Dc
open Go Go.Hw Go.Proofs
set_option maxRecDepth 100000
def program_checkNames_L1 : List (List ByteArray) -> Nat -> Option (Unit ⊕ (Int × ProgramPlace))
 | [], k58 => some (.inl ())
 | x77 :: q73, k58 => Option.bind (program_names x77) (fun y81 => cond (!(eqI y81.1 0)) (some (.inr (y81.1, ({ fn := (-1), inst := (-1) } : ProgramPlace)))) (program_checkNames_L1 q73 (k58 + 1)))
def program_checkNames (a0 : Program) : Option (Int × ProgramPlace) :=
 Option.bind (program_varNames a0) (fun y5 => Option.bind (some ([y5, a0.Mutexes, a0.Conds])) (fun l7 => Option.bind (α := Unit ⊕ (Int × ProgramPlace)) (guardO (lenB l7.length) (Option.bind (program_checkNames_L1 l7 0) (fun o => match o with | .inl _ => some (.inl ()) | .inr r84 => some (.inr r84)))) (fun o => match o with | .inl _ => Option.bind (program_funcNames a0) (fun y85 => Option.bind (program_names y85) (fun y87 => some (y87.1, ({ fn := y87.2, inst := (-1) } : ProgramPlace)))) | .inr r89 => some r89)))
set_option maxHeartbeats 2000000 in
theorem at_program_checkNames {a0 : Program} {r : Int × ProgramPlace} (hs : program_checkNames a0 = some r) : At Tryd.prog 70 [.agg (eA a0)] (.tup [iV .i64 r.1, .agg (eA r.2)]) := by
 refine at_bound (by kernel_rfl) fun hb => ?_
 have hb1 : LenOk (.sl a0.Vars.length (encL a0.Vars)) := lkc hb
 have hb2 : LenOk (.sl a0.Mutexes.length (encL a0.Mutexes)) := lkc hb
 have hb3 : LenOk (.sl a0.Conds.length (encL a0.Conds)) := lkc hb
 have hb4 : LenOk (.sl a0.Funcs.length (encL a0.Funcs)) := lkc hb
 have hb5 : LenOk (.sl a0.Threads.length (encL a0.Threads)) := lkc hb
 refine at_code mixed Tryd.func70 (by kernel_rfl) rfl (by kernel_rfl) rfl fun Q hQ => ?_
 rw [program_checkNames] at hs
 refine goD f0 ?_
 revert hs; refine bK fun y5 hx6 hs => ?_
 refine cP f0 (at_program_varNames hx6) ?_
 revert hs; refine lK fun l7 hx8 hs => ?_
 have hx8n : l7.length = 3 := by rw [hx8]; rfl
 refine goD2 hx8 ?_
 revert hs; refine bK fun o46 e45 hs => ?_
 refine awp_cutK (fun (v : Unit) (σ : St) => some (.inl v) = some o46 /\ σ.env 1 = .cell (.ref (.o 1 0 0) 0) /\ σ.env 3 = .cell (.ref (.o 1 2 0) 0) /\ σ.hp (.o 1 0 0) = some (.cells (eA a0)) /\ σ.hp (.o 1 2 0) = some (.cells [nC 0, nC 0]) /\ 2 <= σ.gen) (by rfl) (fun Q hK47 hX48 => ?_) (fun v σ3 hp => ?_)
 ·refine goD hx8 ?_
  obtain ⟨hb78, e45⟩ := guardO_some e45
  revert e45; refine bK fun o68 e67 e45 => ?_
  refine awp_loopW (fun (v : (List (List ByteArray)) × Nat) (σ : St) => program_checkNames_L1 v.1 v.2 = some o68 /\ v.1 = l7.drop v.2 /\ σ.env 1 = .cell (.ref (.o 1 0 0) 0) /\ σ.env 3 = .cell (.ref (.o 1 2 0) 0) /\ σ.env 16 = .cell (.sl (.o 2 6 0) 0 1 l7.length) /\ σ.env 17 = iV .i64 ((l7.length : Nat) : Int) /\ σ.env 18 = iV .i64 ((v.2 : Nat) : Int) /\ σ.hp (.o 2 6 0) = some (.pure (encL l7)) /\ σ.hp (.o 1 0 0) = some (.cells (eA a0)) /\ σ.hp (.o 1 2 0) = some (.cells [nC 0, nC 0]) /\ 2 <= σ.gen) (fun v => v.1.length) _ (Gh.refl _) (l7, 0) ⟨e67, by simp, pv hx8, pv hx8, pv hx8, pv hx8, pv hx8, pv hx8, pv hx8, pv hx8, pg⟩ fun v σ6 hp L69 hL70 => ?_
  obtain ⟨q72, k58⟩ := v
  dsimp only at hp hL70
  obtain ⟨e67, hd71, h5_1, h5_3, h5_16, h5_17, h5_18, g5_0, g5_1, g5_2, n5_g⟩ := hp
  have n5_0 : ¬ (σ6.gen = 0) := by omega
  have n5_1 : ¬ (σ6.gen = 1) := by omega
  rcases q72 with _ | ⟨x77, q73⟩
  ·have hlt74 := drop_end hd71
   rw [program_checkNames_L1] at e67; try dsimp only at e67
   have F1 := an h5_1 (an h5_3 (an h5_16 (an h5_17 (an h5_18 (an g5_0 (an g5_1 (an g5_2 (an n5_0 n5_1))))))))
   refine goR F1 ?_
   refine condK_f (by simp [ltI]; omega) ?_
   obtain rfl := sj e67
   try dsimp only at e45
   exact hK47 () _ _ (Gh.refl _) ⟨e45, pv F1, pv F1, pv F1, pv F1, pg⟩
  ·obtain ⟨hx76, hlt74, hd79⟩ := drop_next hd71
   have ew75 := wrap_succG hlt74 hb78
   rw [program_checkNames_L1] at e67; try dsimp only at e67
   have F2 := an h5_1 (an h5_3 (an h5_16 (an h5_17 (an h5_18 (an g5_0 (an g5_1 (an g5_2 (an n5_0 (an n5_1 (an hlt74 ew75))))))))))
   refine goR F2 ?_
   refine condK_t (by simp [ltI]; omega) ?_
   have f80 : partCV Tryd.prog 23 (encL l7) (k58) = some (.cell (sC x77)) := partCV_enc1 hx76 (by simp)
   have F3 := an F2 f80
   refine goR F3 ?_
   revert e67; refine bK fun y81 hx82 e67 => ?_
   refine cP F3 (at_program_names hx82) ?_
   refine goR F3 ?_
   revert e67; refine cS F3 ?_ ?_ <;> intro h83 e67
   ·refine goR F3 ?_
    obtain rfl := sj e67
    try dsimp only at e45
    obtain rfl := sj e45
    try dsimp only at hs
    refine hX48 _ _ (by simp) ?_
    refine goR F3 ?_
    obtain rfl := sj hs
    exact hQ _ _ (rg F3 (Gh.refl _))
   ·refine goR F3 ?_
    exact hL70 (q73, (k58 + 1)) _ _ (Gh.refl _) ⟨e67, hd79, pv F3, pv F3, pv F3, pv F3, pv F3, pv F3, pv F3, pv F3, pg⟩ (by simp)
 ·obtain ⟨e45, h4_1, h4_3, g4_0, g4_1, n4_g⟩ := hp
  obtain rfl := sj e45
  try dsimp only at hs
  have n4_0 : ¬ (σ3.gen = 0) := by omega
  have F4 := an h4_1 (an h4_3 (an g4_0 (an g4_1 n4_0)))
  refine goD F4 ?_
  revert hs; refine bK fun y85 hx86 hs => ?_
  refine cP F4 (at_program_funcNames hx86) ?_
  refine goD F4 ?_
  revert hs; refine bK fun y87 hx88 hs => ?_
  refine cP F4 (at_program_names hx88) ?_
  refine goD F4 ?_
  obtain rfl := sj hs
  exact hQ _ _ (rg F4 (Gh.refl _))
end Go.Dc
end
section
set_option linter.all false
namespace Go.Dc
open Go Go.Hw Go.Proofs
set_option maxRecDepth 100000
def r08_lists_L1 : List Var -> (List ByteArray) -> Nat -> Option (List ByteArray)
 | [], l61, k62 => some (l61)
 | x84 :: q80, l61, k62 => Option.bind (some ([x84.Name])) (fun l87 => guardO (limB 16 (l61.length + l87.length)) (Option.bind (some (l61 ++ l87)) (fun l90 => r08_lists_L1 q80 l90 (k62 + 1))))
def r08_lists_L2 : List Func -> (List ByteArray) -> Nat -> Option (List ByteArray)
 | [], l152, k153 => some (l152)
 | x175 :: q171, l152, k153 => Option.bind (some ([x175.Name])) (fun l178 => guardO (limB 16 (l152.length + l178.length)) (Option.bind (some (l152 ++ l178)) (fun l181 => r08_lists_L2 q171 l181 (k153 + 1))))
def r08_lists (a0 : Program) : Option ((List ByteArray) × (List ByteArray)) :=
 Option.bind (α := (List ByteArray)) (Option.bind (r08_lists_L1 a0.Vars [] 0) (fun l73 => some (l73))) (fun l44 => Option.bind (α := (List ByteArray)) (Option.bind (r08_lists_L2 a0.Funcs [] 0) (fun l164 => some (l164))) (fun l135 => some (l44, l135)))
end Go.Dc
end
section
set_option linter.all false
namespace Go.Dc
open Go Go.Hw Go.Proofs
set_option maxRecDepth 100000
def r08_ValidName_L1 (a0 : ByteArray) : Nat -> Nat -> Option (Unit ⊕ Bool)
 | 0, k39 => some (.inl ())
 | q51 + 1, k39 => Option.bind (a0[k39]?) (fun c56 => cond (andB (!(orB (andB (!(ltI (c56.toNat : Int) 97)) (!(ltI 122 (c56.toNat : Int)))) (andB (!(ltI (c56.toNat : Int) 65)) (!(ltI 90 (c56.toNat : Int)))))) (orB (eqI ((k39 : Nat) : Int) 0) (andB (!(eqI (c56.toNat : Int) 95)) (orB (ltI (c56.toNat : Int) 48) (ltI 57 (c56.toNat : Int)))))) (some (.inr false)) (r08_ValidName_L1 a0 q51 (k39 + 1)))
def r08_ValidName (a0 : ByteArray) : Option Bool :=
 cond (orB (ltI ((a0.size : Nat) : Int) 1) (ltI 16 ((a0.size : Nat) : Int))) (some false) (Option.bind (α := Unit ⊕ Bool) (guardO (lenB a0.size) (Option.bind (r08_ValidName_L1 a0 a0.size 0) (fun o => match o with | .inl _ => some (.inl ()) | .inr r59 => some (.inr r59)))) (fun o => match o with | .inl _ => some true | .inr r60 => some r60))
end Go.Dc
end
section
set_option linter.all false
namespace Go.Dc
open Go Go.Hw Go.Proofs
set_option maxRecDepth 100000
def r08_names_L2 (a0 : List ByteArray) (i817 : Int) (x1018 : ByteArray) : Nat -> Int -> Option (Unit ⊕ (Int × Int))
 | 0, _ => none
 | q1050 + 1, i1034 => cond (ltI i1034 i817) (Option.bind (getI a0 i1034) (fun x1058 => cond (eqS x1058 x1018) (some (.inr (i817, 7))) (r08_names_L2 a0 i817 x1018 q1050 (IntKind.i64.wrap (i1034 + 1))))) (some (.inl ()))
def r08_names_L1 (fuelN : Nat) (a0 : List ByteArray) : Nat -> Int -> Option (Unit ⊕ (Int × Int))
 | 0, _ => none
 | q964 + 1, i817 => cond (ltI i817 ((a0.length : Nat) : Int)) (Option.bind (α := Unit ⊕ (Int × Int)) (Option.bind (getI a0 i817) (fun x1018 => Option.bind (r08_ValidName x1018) (fun y1021 => cond (!y1021) (some (.inr (i817, 6))) (Option.bind (r08_names_L2 a0 i817 x1018 fuelN 0) (fun o => match o with | .inl _ => some (.inl ()) | .inr r1062 => some (.inr r1062)))))) (fun o => match o with | .inl _ => r08_names_L1 fuelN a0 q964 (IntKind.i64.wrap (i817 + 1)) | .inr r1063 => some (.inr r1063))) (some (.inl ()))
def r08_names (fuelN : Nat) (a0 : List ByteArray) : Option (Int × Int) :=
 Option.bind (α := Unit ⊕ (Int × Int)) (Option.bind (r08_names_L1 fuelN a0 fuelN 0) (fun o => match o with | .inl _ => some (.inl ()) | .inr r1064 => some (.inr r1064))) (fun o => match o with | .inl _ => some (0, 0) | .inr r1065 => some r1065)
end Go.Dc
end
section
set_option linter.all false
namespace Go.Dc.Pl
open Go Go.Hw Go.Dc
theorem eqI_d (a b : Int) : eqI a b = decide (a = b) := by simp [eqI, Bool.beq_eq_decide_eq]
theorem ltI_d (a b : Int) : ltI a b = decide (a < b) := rfl
theorem andB_d (a b : Bool) : andB a b = (a && b) := rfl
theorem orB_d (a b : Bool) : orB a b = (a || b) := rfl
theorem inB_d (i : Int) (n : Nat) : inB i n = decide (0 <= i /\ i < n) := rfl
theorem lenB_d (n : Nat) : lenB n = decide (n <= 1099511627776) := rfl
def small (p : Program) : Bool := decide (p.Vars.length <= 20 /\ p.Mutexes.length <= 20 /\ p.Conds.length <= 20 /\ p.Funcs.length <= 20 /\ p.Threads.length <= 20) && !p.Funcs.any fun f => decide (100 < f.Code.length)
theorem small_t {p : Program} (h : small p = true) : p.Vars.length <= 20 /\ p.Mutexes.length <= 20 /\ p.Conds.length <= 20 /\ p.Funcs.length <= 20 /\ p.Threads.length <= 20 /\ ∀ f ∈ p.Funcs, f.Code.length <= 100 := by
 simp [small] at h
 obtain ⟨⟨a, b, c, d, e⟩, h⟩ := h
 exact ⟨a, b, c, d, e, h⟩
/-- What a byte of a name may not be. -/
def badC (k : Nat) (c : UInt8) : Bool := andB (!(orB (andB (!(ltI (c.toNat : Int) 97)) (!(ltI 122 (c.toNat : Int)))) (andB (!(ltI (c.toNat : Int) 65)) (!(ltI 90 (c.toNat : Int)))))) (orB (eqI ((k : Nat) : Int) 0) (andB (!(eqI (c.toNat : Int) 95)) (orB (ltI (c.toNat : Int) 48) (ltI 57 (c.toNat : Int)))))
def okName (s : ByteArray) : Bool := decide (1 <= s.size /\ s.size <= 16) && !(((List.replicate s.size ()).zipIdx 0).any fun x => badC x.2 (bget s x.2))
theorem bget_eq {s : ByteArray} {k : Nat} (h : k < s.size) : s[k]? = some (bget s k) := by
 simp [bget, h]
theorem any_ext {α : Type} {p q : α -> Bool} : ∀ {l : List α}, (∀ x ∈ l, p x = q x) -> l.any p = l.any q
 | [], _ => rfl
 | x :: l, h => by rw [List.any_cons, List.any_cons, h x (by simp), any_ext fun y hy => h y (by simp [hy])]
def badP (c : UInt8) : Bool := andB (andB (!(orB (andB (!(ltI (c.toNat : Int) 97)) (!(ltI 122 (c.toNat : Int)))) (andB (!(ltI (c.toNat : Int) 65)) (!(ltI 90 (c.toNat : Int)))))) (!(eqI (c.toNat : Int) 95))) (orB (ltI (c.toNat : Int) 48) (ltI 57 (c.toNat : Int)))
def letr (c : UInt8) : Bool := orB (andB (!(ltI (c.toNat : Int) 97)) (!(ltI 122 (c.toNat : Int)))) (andB (!(ltI (c.toNat : Int) 65)) (!(ltI 90 (c.toNat : Int))))
theorem own_name (s : ByteArray) : program_ValidName s = some (okName s) := by
 simp only [program_ValidName, okName]
 rw [show program_letter (bget s 0) = some (letr (bget s 0)) from rfl]
 by_cases e : 1 <= s.size /\ s.size <= 16
 ·have h := srchN (L := program_ValidName_L1 s) (fun k => onlyIf (badP (bget s k)) false) (fun _ => rfl) s.size 0 fun q j hj => by
   rw [Nat.zero_add, program_ValidName_L1, bget_eq hj, Option.bind_some, program_letter, Option.bind_some]
   exact step_only _ _ _
  rw [first_only (fun k (_ : Unit) => badP (bget s k))] at h
  rw [show (orB (ltI ((s.size : Nat) : Int) 1) (ltI 16 ((s.size : Nat) : Int))) = false by simp [orB_d, ltI_d]; omega]
  rw [show inB ((0 : Nat) : Int) s.size = true by simp [inB_d]; omega, show lenB s.size = true by rw [lenB_d]; simp; omega, h]
  have hl : badC 0 (bget s 0) = !letr (bget s 0) := by simp [badC, letr, orB_d, andB_d, eqI_d]
  have hk : ∀ k, k ≠ 0 -> badC k (bget s k) = badP (bget s k) := fun k hk => by
   simp only [badC, badP, orB_d, andB_d, eqI_d, Bool.and_assoc]
   simp [hk]
  obtain ⟨n, hn⟩ : ∃ n, s.size = n + 1 := ⟨s.size - 1, by omega⟩
  rw [hn, List.replicate_succ, List.zipIdx_cons, List.any_cons, List.any_cons]
  have hr : (((List.replicate n ()).zipIdx (0 + 1)).any fun x => badC x.2 (bget s x.2)) = (((List.replicate n ()).zipIdx (0 + 1)).any fun x => badP (bget s x.2)) := by
   refine any_ext fun x hx => ?_
   have := List.mem_zipIdx hx
   exact hk _ (by omega)
  rw [hr]
  simp only [hl]
  cases hlt : letr (bget s 0)
  ·simp [orB]
  ·have : badP (bget s 0) = false := by simp only [letr] at hlt; simp only [badP, andB_d] at hlt ⊢; rw [hlt]; rfl
   rw [this]
   cases ((List.replicate n ()).zipIdx (0 + 1)).any fun x => badP (bget s x.2) <;> simp [orB] <;> omega
 ·rw [show (orB (ltI ((s.size : Nat) : Int) 1) (ltI 16 ((s.size : Nat) : Int))) = true by simp [orB_d, ltI_d]; omega]
  simp [orB, e]
theorem index_eq (l : List ByteArray) (s : ByteArray) : slices_Index_string l s = some (((first (fun k x => onlyIf (eqS s x) (k : Int)) l 0).getD (-1))) := by
 have h := srch (L := slices_Index_string_L1 s) (fun k x => onlyIf (eqS s x) (k : Int)) (fun _ => rfl) l 0 fun j x hx q => by rw [slices_Index_string_L1]; exact step_only _ _ _
 rw [slices_Index_string, h]
 cases first (fun k x => onlyIf (eqS s x) (k : Int)) l 0 <;> rfl
theorem first_nonneg {α : Type} (p : α -> Bool) : ∀ (l : List α) (k : Nat) (r : Int), first (fun k x => onlyIf (p x) (k : Int)) l k = some r -> 0 <= r
 | [], _, _, h => by cases h
 | x :: q, k, r, h => by
  rw [first_cons] at h
  cases hp : p x
  ·simp [hp] at h; exact first_nonneg p q _ r h
  ·simp [hp] at h; omega
theorem contains_eq (l : List ByteArray) (s : ByteArray) : slices_Contains_string l s = some (l.any (eqS s)) := by
 rw [slices_Contains_string, index_eq, <- first_isSome (eqS s) (fun k _ => (k : Int)) l 0, Option.bind_some]
 have := first_nonneg (eqS s) l 0
 cases h : first (fun k x => onlyIf (eqS s x) (k : Int)) l 0 with
 | none => rfl
 | some r => have := this r h; simp [ltI_d]; omega
/-- What is wrong with a name of a list. -/
def nmF (l : List ByteArray) (k : Nat) (x : ByteArray) : Option (Int × Int) := if okName x = false then some (6, (k : Int)) else onlyIf ((l.take k).any (eqS x)) (7, (k : Int))
def badName (l : List ByteArray) : Option (Int × Int) := first (nmF l) l 0
theorem own_names (l : List ByteArray) : program_names l = some ((badName l).getD (0, -1)) := by
 have h := srch (L := program_names_L1 l) (nmF l) (fun _ => rfl) l 0 fun j x hx q => by
  have hj := getN_some hx
  rw [Nat.zero_add, program_names_L1, own_name, Option.bind_some, nmF]
  cases okName x
  ·rfl
  ·rw [show slB 0 ((j : Nat) : Int) l.length = true by simp [slB]; omega, guardO_t, Option.bind_some, contains_eq, Option.bind_some, show subL l 0 (j : Int) = l.take j by simp [subL], if_neg (by simp), Bool.not_true, cond_false]
   exact step_only _ _ _
 rw [program_names, h]
 show _ = some ((first (nmF l) l 0).getD _)
 cases first (nmF l) l 0 <;> rfl
end Go.Dc.Pl
end
section
set_option linter.all false
namespace Go.Dc
open Go Go.Hw Go.Proofs
set_option maxRecDepth 100000
def inst_known (a0 : Int) : Option Bool :=
 some (andB (!(ltI a0 1)) (!(ltI 22 a0)))
set_option maxHeartbeats 2000000 in
theorem at_inst_known {a0 : Int} {r : Bool} (hs : inst_known a0 = some r) : At Tryd.prog 100 [iV .i64 a0] (bV r) := by
 refine at_bound (by kernel_rfl) fun hb => ?_
 refine at_code mixed Tryd.func100 (by kernel_rfl) rfl (by kernel_rfl) rfl fun Q hQ => ?_
 rw [inst_known] at hs
 refine goG f0 f0 ?_
 obtain rfl := sj hs
 exact hQ _ _ (rg f0 (Gh.refl _))
end Go.Dc
end
section
set_option linter.all false
namespace Go.Dc
open Go Go.Hw Go.Proofs
set_option maxRecDepth 100000
def inst_values (a0 : Inst) : Option (Arr 7 Int) :=
 some (Arr.of 7 [a0.A, a0.B, a0.C, a0.Obj, a0.N, a0.Fn, a0.Order])
set_option maxHeartbeats 2000000 in
theorem at_inst_values {a0 : Inst} {r : (Arr 7 Int)} (hs : inst_values a0 = some r) : At Tryd.prog 101 [.agg (eA a0)] (.agg [nC (r.f 0), nC (r.f 1), nC (r.f 2), nC (r.f 3), nC (r.f 4), nC (r.f 5), nC (r.f 6)]) := by
 refine at_bound (by kernel_rfl) fun hb => ?_
 refine at_code mixed Tryd.func101 (by kernel_rfl) rfl (by kernel_rfl) rfl fun Q hQ => ?_
 rw [inst_values] at hs
 refine goR f0 ?_
 obtain rfl := sj hs
 exact hQ _ _ (rg f0 (Gh.refl _))
end Go.Dc
end
section
set_option linter.all false
namespace Go.Dc
open Go Go.Hw Go.Proofs
set_option maxRecDepth 100000
def value_Name (a0 : Int) : Option ByteArray :=
 cond (orB (ltI a0 1) (ltI 10 a0)) (some (⟨#[]⟩ : ByteArray)) (Option.bind (getI namesTab (IntKind.i64.wrap (a0 - 1))) (fun x2 => some x2))
set_option maxHeartbeats 2000000 in
theorem at_value_Name {a0 : Int} {r : ByteArray} (hs : value_Name a0 = some r) : At Tryd.prog 102 [iV .i64 a0] (sV r) := by
 refine at_bound (by kernel_rfl) fun hb => ?_
 refine at_code mixed Tryd.func102 (by kernel_rfl) rfl (by kernel_rfl) rfl fun Q hQ => ?_
 rw [value_Name] at hs
 refine goG f0 f0 ?_
 revert hs; refine cS f0 ?_ ?_ <;> intro h1 hs
 ·refine goG f0 f0 ?_
  obtain rfl := sj hs
  exact hQ _ _ (rg f0 (Gh.refl _))
 ·revert hs; refine bK fun x2 hx3 hs => ?_
  obtain ⟨hx3a, hx3b, hx3c, hx3d⟩ := getI_some hx3
  have t4L : namesTab.length = 10 := rfl
  have f5 : partCV Tryd.prog 9 (encL namesTab) ((IntKind.i64.wrap (a0 - 1)).toNat) = some (sV x2) := partCV_enc1 hx3d (by simp)
  have F1 := an f5 (an hx3a hx3b)
  refine goG f5 F1 ?_
  obtain rfl := sj hs
  exact hQ _ _ (rg f5 (Gh.refl _))
end Go.Dc
end
section
set_option linter.all false
namespace Go.Dc
open Go Go.Hw Go.Proofs
set_option maxRecDepth 100000
def inst_Check_L1 (x4 : InstRow) (y8 : (Arr 7 Int)) : Nat -> Int -> Option (Unit ⊕ Int)
 | 0, _ => none
 | q69 + 1, i55 => cond (ltI i55 7) (guardO (inB i55 7) (guardO (inB i55 7) (cond (andB (!(x4.uses.f ((i55).toNat))) (!(eqI (y8.f ((i55).toNat)) 0))) (some (.inr 9)) (inst_Check_L1 x4 y8 q69 (IntKind.i64.wrap (i55 + 1)))))) (some (.inl ()))
def inst_Check_L2 (a0 : Inst) (x4 : InstRow) : Nat -> Int -> Option (Unit ⊕ Int)
 | 0, _ => none
 | q139 + 1, i125 => cond (ltI i125 3) (guardO (inB i125 3) (guardO (inB i125 7) (cond (andB (x4.uses.f ((i125).toNat)) (orB (ltI ((Arr.of 3 [a0.A, a0.B, a0.C] : Arr 3 Int).f ((i125).toNat)) 0) (!(ltI ((Arr.of 3 [a0.A, a0.B, a0.C] : Arr 3 Int).f ((i125).toNat)) 8)))) (some (.inr 10)) (inst_Check_L2 a0 x4 q139 (IntKind.i64.wrap (i125 + 1)))))) (some (.inl ()))
def inst_Check (fuelN : Nat) (a0 : Inst) : Option Int :=
 Option.bind (inst_known a0.Op) (fun y1 => cond (!y1) (some 8) (Option.bind (getI rowsTab (IntKind.i64.wrap (a0.Op - 1))) (fun x4 => Option.bind (inst_values a0) (fun y8 => Option.bind (α := Unit ⊕ Int) (Option.bind (inst_Check_L1 x4 y8 fuelN 0) (fun o => match o with | .inl _ => some (.inl ()) | .inr r79 => some (.inr r79))) (fun o => match o with | .inl _ => Option.bind (α := Unit ⊕ Int) (Option.bind (inst_Check_L2 a0 x4 fuelN 0) (fun o => match o with | .inl _ => some (.inl ()) | .inr r149 => some (.inr r149))) (fun o => match o with | .inl _ => cond (andB (x4.uses.f 6) (orB (ltI a0.Order 0) (ltI 2 a0.Order))) (some 13) (guardO (orB (!(x4.uses.f 5)) ((value_Name a0.Fn).isSome)) (cond (andB (x4.uses.f 5) (eqS ((value_Name a0.Fn).getD default) (⟨#[]⟩ : ByteArray))) (some 8) (cond (andB (eqI a0.Op 1) (orB (ltI a0.N (-2147483648)) (ltI 2147483647 a0.N))) (some 2) (some 0)))) | .inr r154 => some r154) | .inr r155 => some r155)))))
set_option maxHeartbeats 2000000 in
theorem at_inst_Check {fuelN : Nat} {a0 : Inst} {r : Int} (hs : inst_Check fuelN a0 = some r) : At Tryd.prog 95 [.agg (eA a0)] (iV .i64 r) := by
 refine at_bound (by kernel_rfl) fun hb => ?_
 refine at_code mixed Tryd.func95 (by kernel_rfl) rfl (by kernel_rfl) rfl fun Q hQ => ?_
 rw [inst_Check] at hs
 refine goR f0 ?_
 revert hs; refine bK fun y1 hx2 hs => ?_
 refine cP f0 (at_inst_known hx2) ?_
 refine goR f0 ?_
 revert hs; refine cS f0 ?_ ?_ <;> intro h3 hs
 ·refine goR f0 ?_
  obtain rfl := sj hs
  exact hQ _ _ (rg f0 (Gh.refl _))
 ·revert hs; refine bK fun x4 hx5 hs => ?_
  obtain ⟨hx5a, hx5b, hx5c, hx5d⟩ := getI_some hx5
  have t6L : rowsTab.length = 22 := rfl
  have f7 : partCV Tryd.prog 151 (encL rowsTab) (((IntKind.i64.wrap (a0.Op - 1)).toNat) * 8 + 1) = some (.agg [bC (x4.uses.f 0), bC (x4.uses.f 1), bC (x4.uses.f 2), bC (x4.uses.f 3), bC (x4.uses.f 4), bC (x4.uses.f 5), bC (x4.uses.f 6)]) := partCV_enc hx5d (f := 1) (by simp)
  refine goR f7 ?_
  revert hs; refine bK fun y8 hx9 hs => ?_
  refine cP f7 (at_inst_values hx9) ?_
  refine goR2 f7 ?_
  revert hs; refine bK fun o44 e43 hs => ?_
  refine awp_cutK (fun (v : Unit) (σ : St) => some (.inl v) = some o44 /\ σ.env 1 = .cell (.ref (.o 1 0 0) 0) /\ σ.env 3 = .cell (.ref (.o 3 6 0) 0) /\ σ.hp (.o 1 0 0) = some (.cells (eA a0)) /\ σ.hp (.o 3 6 0) = some (.cells [bC (x4.uses.f 0), bC (x4.uses.f 1), bC (x4.uses.f 2), bC (x4.uses.f 3), bC (x4.uses.f 4), bC (x4.uses.f 5), bC (x4.uses.f 6)]) /\ 4 <= σ.gen) (by rfl) (fun Q hK45 hX46 => ?_) (fun v σ3 hp => ?_)
  ·refine goR f7 ?_
   revert e43; refine bK fun o64 e63 e43 => ?_
   refine awp_loopW (fun (v : Nat × Int) (σ : St) => inst_Check_L1 x4 y8 v.1 v.2 = some o64 /\ σ.env 1 = .cell (.ref (.o 1 0 0) 0) /\ σ.env 3 = .cell (.ref (.o 3 6 0) 0) /\ σ.env 19 = .agg [nC (y8.f 0), nC (y8.f 1), nC (y8.f 2), nC (y8.f 3), nC (y8.f 4), nC (y8.f 5), nC (y8.f 6)] /\ σ.env 20 = iV .i64 v.2 /\ σ.hp (.o 1 0 0) = some (.cells (eA a0)) /\ σ.hp (.o 3 6 0) = some (.cells [bC (x4.uses.f 0), bC (x4.uses.f 1), bC (x4.uses.f 2), bC (x4.uses.f 3), bC (x4.uses.f 4), bC (x4.uses.f 5), bC (x4.uses.f 6)]) /\ 4 <= σ.gen) (fun v => v.1) _ (Gh.refl _) (fuelN, 0) ⟨e63, pv f7, pv f7, pv f7, pv f7, pv f7, pv f7, pg⟩ fun v σ6 hp L65 hL66 => ?_
   obtain ⟨q68, i55⟩ := v
   dsimp only at hp hL66
   obtain ⟨e63, h5_1, h5_3, h5_19, h5_20, g5_0, g5_1, n5_g⟩ := hp
   have n5_0 : ¬ (σ6.gen = 0) := by omega
   have n5_1 : ¬ (σ6.gen = 1) := by omega
   have n5_2 : ¬ (σ6.gen = 2) := by omega
   rcases q68 with _ | q69
   ·rw [inst_Check_L1] at e63; cases e63
   ·rw [inst_Check_L1] at e63; try dsimp only at e63
    have F1 := an h5_1 (an h5_3 (an h5_19 (an h5_20 (an g5_0 (an g5_1 (an n5_0 (an n5_1 (an n5_2 f7))))))))
    refine goR F1 ?_
    revert e63; refine cS F1 ?_ ?_ <;> intro h73 e63
    ·obtain ⟨g74, e63⟩ := guardO_some e63
     have g74a : 0 <= i55 := (inB_t g74).1
     have g74b : i55 < 7 := (inB_t g74).2.1
     have g74n : (i55).toNat < 7 :=  by simpa using (inB_t g74).2.2
     have f75 : ([nC (y8.f 0), nC (y8.f 1), nC (y8.f 2), nC (y8.f 3), nC (y8.f 4), nC (y8.f 5), nC (y8.f 6)] : List AC)[(i55).toNat]? = some (nC (y8.f ((i55).toNat))) := arr_read (n := 7) (fun j => (nC (y8.f j) : AC)) g74n
     have f75t := take_one f75
     have f75g := get_of f75
     obtain ⟨g76, e63⟩ := guardO_some e63
     have g76a : 0 <= i55 := (inB_t g76).1
     have g76b : i55 < 7 := (inB_t g76).2.1
     have g76n : (i55).toNat < 7 :=  by simpa using (inB_t g76).2.2
     have f77 : ([bC (x4.uses.f 0), bC (x4.uses.f 1), bC (x4.uses.f 2), bC (x4.uses.f 3), bC (x4.uses.f 4), bC (x4.uses.f 5), bC (x4.uses.f 6)] : List AC)[(i55).toNat]? = some (bC (x4.uses.f ((i55).toNat))) := arr_read (n := 7) (fun j => (bC (x4.uses.f j) : AC)) g76n
     have f77t := take_one f77
     have f77g := get_of f77
     have F2 := an F1 (an g74a (an g74b (an g74n (an f75 (an f75t (an f75g (an g76a (an g76b (an g76n (an f77 (an f77t f77g)))))))))))
     have F3 := an F2 (an hx5a hx5b)
     refine goG F2 F3 ?_
     revert e63; refine cS F2 ?_ ?_ <;> intro h78 e63
     ·refine goG F2 F3 ?_
      obtain rfl := sj e63
      try dsimp only at e43
      obtain rfl := sj e43
      try dsimp only at hs
      refine hX46 _ _ (by simp) ?_
      refine goG F2 F3 ?_
      obtain rfl := sj hs
      exact hQ _ _ (rg F2 (Gh.refl _))
     ·refine goG F2 F3 ?_
      exact hL66 (q69, IntKind.i64.wrap (i55 + 1)) _ _ (Gh.refl _) ⟨e63, pv F2, pv F2, pv F2, pv F2, pv F2, pv F2, pg⟩ (by omega)
    ·refine goR F1 ?_
     obtain rfl := sj e63
     try dsimp only at e43
     exact hK45 () _ _ (Gh.refl _) ⟨e43, pv F1, pv F1, pv F1, pv F1, pg⟩
  ·obtain ⟨e43, h4_1, h4_3, g4_0, g4_1, n4_g⟩ := hp
   obtain rfl := sj e43
   try dsimp only at hs
   have n4_0 : ¬ (σ3.gen = 0) := by omega
   have n4_1 : ¬ (σ3.gen = 1) := by omega
   have n4_2 : ¬ (σ3.gen = 2) := by omega
   have F4 := an h4_1 (an h4_3 (an g4_0 (an g4_1 (an n4_0 (an n4_1 (an n4_2 f7))))))
   refine goR2 F4 ?_
   revert hs; refine bK fun o114 e113 hs => ?_
   refine awp_cutK (fun (v : Unit) (σ : St) => some (.inl v) = some o114 /\ σ.env 1 = .cell (.ref (.o 1 0 0) 0) /\ σ.env 3 = .cell (.ref (.o 3 6 0) 0) /\ σ.hp (.o 1 0 0) = some (.cells (eA a0)) /\ σ.hp (.o 3 6 0) = some (.cells [bC (x4.uses.f 0), bC (x4.uses.f 1), bC (x4.uses.f 2), bC (x4.uses.f 3), bC (x4.uses.f 4), bC (x4.uses.f 5), bC (x4.uses.f 6)]) /\ (σ3.gen + 1) <= σ.gen) (by rfl) (fun Q hK115 hX116 => ?_) (fun v σ9 hp => ?_)
   ·refine goR F4 ?_
    revert e113; refine bK fun o134 e133 e113 => ?_
    refine awp_loopW (fun (v : Nat × Int) (σ : St) => inst_Check_L2 a0 x4 v.1 v.2 = some o134 /\ σ.env 1 = .cell (.ref (.o 1 0 0) 0) /\ σ.env 3 = .cell (.ref (.o 3 6 0) 0) /\ σ.env 39 = .agg [nC a0.A, nC a0.B, nC a0.C] /\ σ.env 40 = iV .i64 v.2 /\ σ.hp (.o 1 0 0) = some (.cells (eA a0)) /\ σ.hp (.o 3 6 0) = some (.cells [bC (x4.uses.f 0), bC (x4.uses.f 1), bC (x4.uses.f 2), bC (x4.uses.f 3), bC (x4.uses.f 4), bC (x4.uses.f 5), bC (x4.uses.f 6)]) /\ (σ3.gen + 1) <= σ.gen) (fun v => v.1) _ (Gh.refl _) (fuelN, 0) ⟨e133, pv F4, pv F4, pv F4, pv F4, pv F4, pv F4, pg⟩ fun v σ12 hp L135 hL136 => ?_
    obtain ⟨q138, i125⟩ := v
    dsimp only at hp hL136
    obtain ⟨e133, h11_1, h11_3, h11_39, h11_40, g11_0, g11_1, n11_g⟩ := hp
    have n11_0 : ¬ (σ12.gen = 0) := by omega
    have n11_1 : ¬ (σ12.gen = 1) := by omega
    have n11_2 : ¬ (σ12.gen = 2) := by omega
    rcases q138 with _ | q139
    ·rw [inst_Check_L2] at e133; cases e133
    ·rw [inst_Check_L2] at e133; try dsimp only at e133
     have F5 := an h11_1 (an h11_3 (an h11_39 (an h11_40 (an g11_0 (an g11_1 (an n11_0 (an n11_1 (an n11_2 f7))))))))
     refine goR F5 ?_
     revert e133; refine cS F5 ?_ ?_ <;> intro h143 e133
     ·obtain ⟨g144, e133⟩ := guardO_some e133
      have g144a : 0 <= i125 := (inB_t g144).1
      have g144b : i125 < 3 := (inB_t g144).2.1
      have g144n : (i125).toNat < 3 :=  by simpa using (inB_t g144).2.2
      have f145 : ([nC a0.A, nC a0.B, nC a0.C] : List AC)[(i125).toNat]? = some (nC ((Arr.of 3 [a0.A, a0.B, a0.C] : Arr 3 Int).f ((i125).toNat))) := arr_readL (n := 3) ([a0.A, a0.B, a0.C] : List Int) (fun y => (nC y : AC)) g144n
      have f145t := take_one f145
      have f145g := get_of f145
      obtain ⟨g146, e133⟩ := guardO_some e133
      have g146a : 0 <= i125 := (inB_t g146).1
      have g146b : i125 < 7 := (inB_t g146).2.1
      have g146n : (i125).toNat < 7 :=  by simpa using (inB_t g146).2.2
      have f147 : ([bC (x4.uses.f 0), bC (x4.uses.f 1), bC (x4.uses.f 2), bC (x4.uses.f 3), bC (x4.uses.f 4), bC (x4.uses.f 5), bC (x4.uses.f 6)] : List AC)[(i125).toNat]? = some (bC (x4.uses.f ((i125).toNat))) := arr_read (n := 7) (fun j => (bC (x4.uses.f j) : AC)) g146n
      have f147t := take_one f147
      have f147g := get_of f147
      have F6 := an F5 (an g144a (an g144b (an g144n (an f145 (an f145t (an f145g (an g146a (an g146b (an g146n (an f147 (an f147t f147g)))))))))))
      have F7 := an F6 (an hx5a hx5b)
      refine goG F6 F7 ?_
      revert e133; refine cS F6 ?_ ?_ <;> intro h148 e133
      ·refine goG F6 F7 ?_
       obtain rfl := sj e133
       try dsimp only at e113
       obtain rfl := sj e113
       try dsimp only at hs
       refine hX116 _ _ (by simp) ?_
       refine goG F6 F7 ?_
       obtain rfl := sj hs
       exact hQ _ _ (rg F6 (Gh.refl _))
      ·refine goG F6 F7 ?_
       exact hL136 (q139, IntKind.i64.wrap (i125 + 1)) _ _ (Gh.refl _) ⟨e133, pv F6, pv F6, pv F6, pv F6, pv F6, pv F6, pg⟩ (by omega)
     ·refine goR F5 ?_
      obtain rfl := sj e133
      try dsimp only at e113
      exact hK115 () _ _ (Gh.refl _) ⟨e113, pv F5, pv F5, pv F5, pv F5, pg⟩
   ·obtain ⟨e113, h10_1, h10_3, g10_0, g10_1, n10_g⟩ := hp
    obtain rfl := sj e113
    try dsimp only at hs
    have n10_0 : ¬ (σ9.gen = 0) := by omega
    have n10_1 : ¬ (σ9.gen = 1) := by omega
    have n10_2 : ¬ (σ9.gen = 2) := by omega
    have F8 := an h10_1 (an h10_3 (an g10_0 (an g10_1 (an n10_0 (an n10_1 (an n10_2 f7))))))
    have F9 := an F8 (an hx5a hx5b)
    refine goG F8 F9 ?_
    revert hs; refine cS F8 ?_ ?_ <;> intro h150 hs
    ·refine goG F8 F9 ?_
     obtain rfl := sj hs
     exact hQ _ _ (rg F8 (Gh.refl _))
    ·refine goG F8 F9 ?_
     obtain ⟨g151, hs⟩ := guardO_some hs
     refine gsel_call (fun hg => at_value_Name (under_call g151 hg)) (fun hg => by (try simp at hg); (first | simp [hg, F8]); try rfl) (fun hg => by (try simp at hg); simp [hg, F8]) (by simp) ?_
     refine goG F8 F9 ?_
     revert hs; refine cS F8 ?_ ?_ <;> intro h152 hs
     ·refine goG F8 F9 ?_
      obtain rfl := sj hs
      exact hQ _ _ (rg F8 (Gh.refl _))
     ·refine goG F8 F9 ?_
      revert hs; refine cS F8 ?_ ?_ <;> intro h153 hs
      ·refine goG F8 F9 ?_
       obtain rfl := sj hs
       exact hQ _ _ (rg F8 (Gh.refl _))
      ·refine goG F8 F9 ?_
       obtain rfl := sj hs
       exact hQ _ _ (rg F8 (Gh.refl _))
end Go.Dc
end
section
set_option linter.all false
namespace Go.Dc
open Go Go.Hw Go.Proofs
set_option maxRecDepth 100000
def r07_fields  : Option (List ByteArray) :=
 Option.bind (some ([(⟨#[65, 78]⟩ : ByteArray), (⟨#[65, 66]⟩ : ByteArray), (⟨#[70, 65, 66, 67]⟩ : ByteArray), (⟨#[78]⟩ : ByteArray), (⟨#[66, 78]⟩ : ByteArray), (⟨#[66]⟩ : ByteArray), (⟨#[]⟩ : ByteArray), (⟨#[65, 79, 82]⟩ : ByteArray), (⟨#[79, 66, 82]⟩ : ByteArray), (⟨#[65, 79, 66, 82]⟩ : ByteArray), (⟨#[65, 79, 66, 82]⟩ : ByteArray), (⟨#[65, 79, 66, 67, 82]⟩ : ByteArray), (⟨#[]⟩ : ByteArray), (⟨#[65, 79, 70, 66, 82]⟩ : ByteArray), (⟨#[79]⟩ : ByteArray), (⟨#[79]⟩ : ByteArray), (⟨#[65, 79]⟩ : ByteArray), (⟨#[79, 78]⟩ : ByteArray), (⟨#[79]⟩ : ByteArray), (⟨#[79]⟩ : ByteArray), (⟨#[65, 79, 66]⟩ : ByteArray), (⟨#[66]⟩ : ByteArray)])) (fun l1 => some l1)
end Go.Dc
end
section
set_option linter.all false
namespace Go.Dc
open Go Go.Hw Go.Proofs
set_option maxRecDepth 100000
def r07_has_L1 (a1 : UInt8) (x4 : ByteArray) : Nat -> Nat -> Option (Unit ⊕ Bool)
 | 0, k44 => some (.inl ())
 | q56 + 1, k44 => Option.bind (x4[k44]?) (fun c61 => cond (eqI (c61.toNat : Int) (a1.toNat : Int)) (some (.inr true)) (r07_has_L1 a1 x4 q56 (k44 + 1)))
def r07_has (a0 : Int) (a1 : UInt8) : Option Bool :=
 cond (orB (ltI a0 1) (ltI 22 a0)) (some false) (Option.bind (r07_fields) (fun y2 => Option.bind (getI y2 (IntKind.i64.wrap (a0 - 1))) (fun x4 => Option.bind (α := Unit ⊕ Bool) (guardO (lenB x4.size) (Option.bind (r07_has_L1 a1 x4 x4.size 0) (fun o => match o with | .inl _ => some (.inl ()) | .inr r64 => some (.inr r64)))) (fun o => match o with | .inl _ => some false | .inr r65 => some r65))))
end Go.Dc
end
section
set_option linter.all false
namespace Go.Dc
open Go Go.Hw Go.Proofs
set_option maxRecDepth 100000
def r07_register (a0 : Int) : Option Bool :=
 some (andB (!(ltI a0 0)) (ltI a0 8))
end Go.Dc
end
section
set_option linter.all false
namespace Go.Dc
open Go Go.Hw Go.Proofs
set_option maxRecDepth 100000
def r01_Name (a0 : Int) : Option ByteArray :=
 cond (eqI a0 1) (some (⟨#[97, 100, 100]⟩ : ByteArray)) (cond (eqI a0 2) (some (⟨#[115, 117, 98]⟩ : ByteArray)) (cond (eqI a0 3) (some (⟨#[109, 117, 108]⟩ : ByteArray)) (cond (eqI a0 4) (some (⟨#[97, 110, 100]⟩ : ByteArray)) (cond (eqI a0 5) (some (⟨#[111, 114]⟩ : ByteArray)) (cond (eqI a0 6) (some (⟨#[120, 111, 114]⟩ : ByteArray)) (cond (eqI a0 7) (some (⟨#[101, 113]⟩ : ByteArray)) (cond (eqI a0 8) (some (⟨#[110, 101]⟩ : ByteArray)) (cond (eqI a0 9) (some (⟨#[108, 116]⟩ : ByteArray)) (cond (eqI a0 10) (some (⟨#[108, 101]⟩ : ByteArray)) (some (⟨#[]⟩ : ByteArray)))))))))))
end Go.Dc
end
section
set_option linter.all false
namespace Go.Dc
open Go Go.Hw Go.Proofs
set_option maxRecDepth 100000
def r07_Check (a0 : Inst) : Option Int :=
 cond (orB (ltI a0.Op 1) (ltI 22 a0.Op)) (some 8) (Option.bind (r07_has a0.Op 65) (fun y2 => guardO (orB (!(!(andB (!y2) (!(eqI a0.A 0))))) ((r07_has a0.Op 66).isSome)) (guardO (orB (!(!(orB (andB (!y2) (!(eqI a0.A 0))) (andB (!((r07_has a0.Op 66).getD default)) (!(eqI a0.B 0)))))) ((r07_has a0.Op 67).isSome)) (guardO (orB (!(!(orB (orB (andB (!y2) (!(eqI a0.A 0))) (andB (!((r07_has a0.Op 66).getD default)) (!(eqI a0.B 0)))) (andB (!((r07_has a0.Op 67).getD default)) (!(eqI a0.C 0)))))) ((r07_has a0.Op 79).isSome)) (guardO (orB (!(!(orB (orB (orB (andB (!y2) (!(eqI a0.A 0))) (andB (!((r07_has a0.Op 66).getD default)) (!(eqI a0.B 0)))) (andB (!((r07_has a0.Op 67).getD default)) (!(eqI a0.C 0)))) (andB (!((r07_has a0.Op 79).getD default)) (!(eqI a0.Obj 0)))))) ((r07_has a0.Op 78).isSome)) (guardO (orB (!(!(orB (orB (orB (orB (andB (!y2) (!(eqI a0.A 0))) (andB (!((r07_has a0.Op 66).getD default)) (!(eqI a0.B 0)))) (andB (!((r07_has a0.Op 67).getD default)) (!(eqI a0.C 0)))) (andB (!((r07_has a0.Op 79).getD default)) (!(eqI a0.Obj 0)))) (andB (!((r07_has a0.Op 78).getD default)) (!(eqI a0.N 0)))))) ((r07_has a0.Op 70).isSome)) (guardO (orB (!(!(orB (orB (orB (orB (orB (andB (!y2) (!(eqI a0.A 0))) (andB (!((r07_has a0.Op 66).getD default)) (!(eqI a0.B 0)))) (andB (!((r07_has a0.Op 67).getD default)) (!(eqI a0.C 0)))) (andB (!((r07_has a0.Op 79).getD default)) (!(eqI a0.Obj 0)))) (andB (!((r07_has a0.Op 78).getD default)) (!(eqI a0.N 0)))) (andB (!((r07_has a0.Op 70).getD default)) (!(eqI a0.Fn 0)))))) ((r07_has a0.Op 82).isSome)) (cond (orB (orB (orB (orB (orB (orB (andB (!y2) (!(eqI a0.A 0))) (andB (!((r07_has a0.Op 66).getD default)) (!(eqI a0.B 0)))) (andB (!((r07_has a0.Op 67).getD default)) (!(eqI a0.C 0)))) (andB (!((r07_has a0.Op 79).getD default)) (!(eqI a0.Obj 0)))) (andB (!((r07_has a0.Op 78).getD default)) (!(eqI a0.N 0)))) (andB (!((r07_has a0.Op 70).getD default)) (!(eqI a0.Fn 0)))) (andB (!((r07_has a0.Op 82).getD default)) (!(eqI a0.Order 0)))) (some 9) (Option.bind (r07_register a0.A) (fun y11 => guardO (orB (!y11) ((r07_register a0.B).isSome)) (guardO (orB (!(!(orB (!y11) (!((r07_register a0.B).getD default))))) ((r07_register a0.C).isSome)) (cond (orB (orB (!y11) (!((r07_register a0.B).getD default))) (!((r07_register a0.C).getD default))) (some 10) (cond (orB (ltI a0.Order 0) (ltI 2 a0.Order)) (some 13) (Option.bind (r07_has a0.Op 70) (fun y17 => guardO (orB (!y17) ((r01_Name a0.Fn).isSome)) (cond (andB y17 (eqS ((r01_Name a0.Fn).getD default) (⟨#[]⟩ : ByteArray))) (some 8) (cond (andB (eqI a0.Op 1) (orB (ltI a0.N (-2147483648)) (ltI 2147483647 a0.N))) (some 2) (some 0))))))))))))))))))
end Go.Dc
end
section
set_option linter.all false
namespace Go.Dc.Pl
open Go Go.Hw Go.Dc
set_option maxRecDepth 100000
def hasB (op : Int) (c : UInt8) : Bool := (r07_has op c).getD false
theorem ops22 {op : Int} (h1 : 1 <= op) (h2 : op <= 22) : op ∈ (List.range 22).map fun n => ((n + 1 : Nat) : Int) := by
 simp only [List.mem_map, List.mem_range]; exact ⟨(op - 1).toNat, by omega, by omega⟩
/-- A row of the table of instructions and the letters of the same instruction. -/
def rowB (op : Int) : Bool := match getI rowsTab (IntKind.i64.wrap (op - 1)) with
 | none => false
 | some r => decide (r07_has op 65 = some (r.uses.f 0)) && decide (r07_has op 66 = some (r.uses.f 1)) && decide (r07_has op 67 = some (r.uses.f 2)) && decide (r07_has op 79 = some (r.uses.f 3)) && decide (r07_has op 78 = some (r.uses.f 4)) && decide (r07_has op 70 = some (r.uses.f 5)) && decide (r07_has op 82 = some (r.uses.f 6))
theorem rowsB : (((List.range 22).map fun n => ((n + 1 : Nat) : Int)).all rowB) = true := by kernel_rfl
theorem row_ex {op : Int} (h1 : 1 <= op) (h2 : op <= 22) : ∃ r : InstRow, getI rowsTab (IntKind.i64.wrap (op - 1)) = some r /\ r07_has op 65 = some (r.uses.f 0) /\ r07_has op 66 = some (r.uses.f 1) /\ r07_has op 67 = some (r.uses.f 2) /\
  r07_has op 79 = some (r.uses.f 3) /\ r07_has op 78 = some (r.uses.f 4) /\ r07_has op 70 = some (r.uses.f 5) /\ r07_has op 82 = some (r.uses.f 6) := by
 have h := List.all_eq_true.1 rowsB op (ops22 h1 h2)
 rw [rowB] at h
 split at h
 ·cases h
 ·rename_i r hr; simp only [Bool.and_eq_true, decide_eq_true_eq] at h; obtain ⟨⟨⟨⟨⟨⟨a, b⟩, c⟩, d⟩, e⟩, f⟩, g⟩ := h; exact ⟨r, hr, a, b, c, d, e, f, g⟩
def noName (n : Int) : Bool := orB (ltI n 1) (ltI 10 n)
theorem ops10 {op : Int} (h1 : 1 <= op) (h2 : op <= 10) : op ∈ (List.range 10).map fun n => ((n + 1 : Nat) : Int) := by
 simp only [List.mem_map, List.mem_range]; exact ⟨(op - 1).toNat, by omega, by omega⟩
theorem names_some : (((List.range 10).map fun n => ((n + 1 : Nat) : Int)).all fun n => match value_Name n, r01_Name n with | some a, some b => a.size != 0 && b.size != 0 | _, _ => false) = true := by kernel_rfl
theorem eqS_data (a b : ByteArray) : eqS a b = (a.data.toList == b.data.toList) := by unfold eqS; rw [ByteArray.toList_eq, ByteArray.toList_eq]
theorem str_len (s : ByteArray) : s.size = s.data.toList.length := by rw [Array.length_toList]; rfl
theorem eqS_empty (a : ByteArray) : eqS a ⟨#[]⟩ = decide (a.size = 0) := by
 rw [eqS_data, str_len]
 cases h : a.data.toList with
 | nil => rfl
 | cons x l => rfl
theorem eqS_refl (a : ByteArray) : eqS a a = true := by simp [eqS]
theorem names_eq (n : Int) : ∃ a b, value_Name n = some a /\ r01_Name n = some b /\ eqS a ⟨#[]⟩ = noName n /\ eqS b ⟨#[]⟩ = noName n := by
 by_cases h : 1 <= n /\ n <= 10
 ·have h2 := List.all_eq_true.1 names_some n (ops10 h.1 h.2)
  have h3 : noName n = false := by simp [noName, orB_d, ltI_d]; omega
  split at h2
  ·rename_i a b ha hb
   simp at h2
   exact ⟨a, b, ha, hb, by rw [eqS_empty, h3]; simpa using h2.1, by rw [eqS_empty, h3]; simpa using h2.2⟩
  ·cases h2
 ·have h3 : noName n = true := by simp [noName, orB_d, ltI_d]; omega
  refine ⟨⟨#[]⟩, ⟨#[]⟩, ?_, ?_, by rw [h3, eqS_refl], by rw [h3, eqS_refl]⟩
  ·rw [value_Name, show orB (ltI n 1) (ltI 10 n) = true from h3]; rfl
  ·simp only [r01_Name, eqI_d]
   have h4 : n < 1 \/ 10 < n := by omega
   simp [show n ≠ 1 by omega, show n ≠ 2 by omega, show n ≠ 3 by omega, show n ≠ 4 by omega, show n ≠ 5 by omega, show n ≠ 6 by omega, show n ≠ 7 by omega, show n ≠ 8 by omega, show n ≠ 9 by omega, show n ≠ 10 by omega]
theorem inst_L1 (r : InstRow) (y : Arr 7 Int) (fuel : Nat) : inst_Check_L1 r y (fuel + 8) 0 = some (toS (onlyIf (((List.range 7).zipIdx 0).any fun x => andB (!(r.uses.f x.2)) (!(eqI (y.f x.2) 0))) 9)) := by
 have h := srchI (L := inst_Check_L1 r y) (List.range 7) (fun k _ => onlyIf (andB (!(r.uses.f k)) (!(eqI (y.f k) 0))) 9) (fun q => by rw [inst_Check_L1]; rfl) (fun q k x hx => by
  have hk := getN_some hx
  rw [List.length_range] at hk
  rw [inst_Check_L1, ltI_d, show decide ((k : Int) < 7) = true by simp; omega, cond_true, show inB (k : Int) 7 = true by simp [inB_d]; omega, guardO_t, guardO_t, Int.toNat_natCast, wrapS (by omega)]
  exact step_only _ _ _) (fuel + 8) 0 (by simp) (by simp)
 rw [List.drop_zero, first_only (fun k (_ : Nat) => andB (!(r.uses.f k)) (!(eqI (y.f k) 0)))] at h
 exact h
theorem inst_L2 (a : Inst) (r : InstRow) (fuel : Nat) : inst_Check_L2 a r (fuel + 8) 0 = some (toS (onlyIf (((List.range 3).zipIdx 0).any fun x => andB (r.uses.f x.2) (orB (ltI ((Arr.of 3 [a.A, a.B, a.C] : Arr 3 Int).f x.2) 0) (!(ltI ((Arr.of 3 [a.A, a.B, a.C] : Arr 3 Int).f x.2) 8)))) 10)) := by
 have h := srchI (L := inst_Check_L2 a r) (List.range 3) (fun k _ => onlyIf (andB (r.uses.f k) (orB (ltI ((Arr.of 3 [a.A, a.B, a.C] : Arr 3 Int).f k) 0) (!(ltI ((Arr.of 3 [a.A, a.B, a.C] : Arr 3 Int).f k) 8)))) 10) (fun q => by rw [inst_Check_L2]; rfl) (fun q k x hx => by
  have hk := getN_some hx
  rw [List.length_range] at hk
  rw [inst_Check_L2, ltI_d, show decide ((k : Int) < 3) = true by simp; omega, cond_true, show inB (k : Int) 3 = true by simp [inB_d]; omega, show inB (k : Int) 7 = true by simp [inB_d]; omega, guardO_t, guardO_t, Int.toNat_natCast, wrapS (by omega)]
  exact step_only _ _ _) (fuel + 8) 0 (by simp) (by simp)
 rw [List.drop_zero, first_only (fun k (_ : Nat) => andB (r.uses.f k) (orB (ltI ((Arr.of 3 [a.A, a.B, a.C] : Arr 3 Int).f k) 0) (!(ltI ((Arr.of 3 [a.A, a.B, a.C] : Arr 3 Int).f k) 8)))) ] at h
 exact h
theorem orB_t (b : Bool) : orB b true = true := by cases b <;> rfl
theorem reg_eq {u : Bool} {n : Int} (h : andB (!u) (!eqI n 0) = false) : andB u (orB (ltI n 0) (!ltI n 8)) = !andB (!ltI n 0) (ltI n 8) := by
 cases u
 ·have : n = 0 := by simpa [andB_d, eqI_d] using h
  subst this; decide
 ·simp [andB_d, orB_d]
theorem ord_eq {u : Bool} {n : Int} (h : andB (!u) (!eqI n 0) = false) : andB u (orB (ltI n 0) (ltI 2 n)) = orB (ltI n 0) (ltI 2 n) := by
 cases u
 ·have : n = 0 := by simpa [andB_d, eqI_d] using h
  subst this; decide
 ·simp [andB_d, orB_d]
/-- What an instruction's check answers. -/
def icode (x : Inst) : Int := (r07_Check x).getD 0
theorem check_eq (fuel : Nat) (x : Inst) : inst_Check (fuel + 8) x = some (icode x) /\ r07_Check x = some (icode x) := by
 suffices h : ∃ r, inst_Check (fuel + 8) x = some r /\ r07_Check x = some r by obtain ⟨r, a, b⟩ := h; rw [icode, b]; exact ⟨a, rfl⟩
 by_cases hop : 1 <= x.Op /\ x.Op <= 22
 ·obtain ⟨r, hr, h0, h1, h2, h3, h4, h5, h6⟩ := row_ex hop.1 hop.2
  obtain ⟨na, nb, hna, hnb, hea, heb⟩ := names_eq x.Fn
  simp only [inst_Check, inst_known, r07_Check, Option.bind_some, hr, h0, h1, h2, h3, h4, h5, h6, hna, hnb, Option.getD_some, Option.isSome_some, hea, heb, r07_register]
  rw [show (andB (!(ltI x.Op 1)) (!(ltI 22 x.Op))) = true by simp [andB_d, ltI_d]; omega, show orB (ltI x.Op 1) (ltI 22 x.Op) = false by simp [orB_d, ltI_d]; omega]
  simp only [inst_values, Option.bind_some, Bool.not_true, cond_false, inst_L1, inst_L2]
  simp only [show (List.range 7).zipIdx 0 = [(0, 0), (1, 1), (2, 2), (3, 3), (4, 4), (5, 5), (6, 6)] from rfl, show (List.range 3).zipIdx 0 = [(0, 0), (1, 1), (2, 2)] from rfl, List.any_cons, List.any_nil, arr_of_f, List.getD_cons_zero, List.getD_cons_succ, Bool.or_false]
  generalize r.uses.f 0 = u0, r.uses.f 1 = u1, r.uses.f 2 = u2, r.uses.f 3 = u3, r.uses.f 4 = u4, r.uses.f 5 = u5, r.uses.f 6 = u6
  simp only [orB_t, guardO_t]
  have p1 : ∀ a b c d e f g : Bool, (a || (b || (c || (d || (e || (f || g)))))) = orB (orB (orB (orB (orB (orB a b) c) d) e) f) g := by decide
  have p2 : ∀ a b c : Bool, (a || (b || c)) = orB (orB a b) c := by decide
  rw [p1, p2]
  cases ha : orB (orB (orB (orB (orB (orB (andB (!u0) (!eqI x.A 0)) (andB (!u1) (!eqI x.B 0))) (andB (!u2) (!eqI x.C 0))) (andB (!u3) (!eqI x.Obj 0))) (andB (!u4) (!eqI x.N 0))) (andB (!u5) (!eqI x.Fn 0))) (andB (!u6) (!eqI x.Order 0))
  ·simp only [orB_d, Bool.or_eq_false_iff] at ha
   obtain ⟨⟨⟨⟨⟨⟨a0, a1⟩, a2⟩, _⟩, _⟩, _⟩, a6⟩ := ha
   rw [reg_eq a0, reg_eq a1, reg_eq a2, ord_eq a6]
   cases orB (orB (!andB (!ltI x.A 0) (ltI x.A 8)) (!andB (!ltI x.B 0) (ltI x.B 8))) (!andB (!ltI x.C 0) (ltI x.C 8))
   ·cases orB (ltI x.Order 0) (ltI 2 x.Order)
    ·cases andB u5 (noName x.Fn)
     ·cases andB (eqI x.Op 1) (orB (ltI x.N (-2147483648)) (ltI 2147483647 x.N))
      ·exact ⟨_, rfl, rfl⟩
      ·exact ⟨_, rfl, rfl⟩
     ·exact ⟨_, rfl, rfl⟩
    ·exact ⟨_, rfl, rfl⟩
   ·exact ⟨_, rfl, rfl⟩
  ·exact ⟨_, rfl, rfl⟩
 ·refine ⟨8, ?_, ?_⟩
  ·rw [inst_Check, inst_known, show (andB (!(ltI x.Op 1)) (!(ltI 22 x.Op))) = false by simp [andB_d, ltI_d]; omega]; rfl
  ·rw [r07_Check, show orB (ltI x.Op 1) (ltI 22 x.Op) = true by simp [orB_d, ltI_d]; omega]; rfl
end Go.Dc.Pl
end
section
set_option linter.all false
namespace Go.Dc
open Go Go.Hw Go.Proofs
set_option maxRecDepth 100000
def program_value (a0 : Int) : Option Bool :=
 some (andB (!(ltI a0 (-2147483648))) (!(ltI 2147483647 a0)))
set_option maxHeartbeats 2000000 in
theorem at_program_value {a0 : Int} {r : Bool} (hs : program_value a0 = some r) : At Tryd.prog 83 [iV .i64 a0] (bV r) := by
 refine at_bound (by kernel_rfl) fun hb => ?_
 refine at_code mixed Tryd.func83 (by kernel_rfl) rfl (by kernel_rfl) rfl fun Q hQ => ?_
 rw [program_value] at hs
 refine goG f0 f0 ?_
 obtain rfl := sj hs
 exact hQ _ _ (rg f0 (Gh.refl _))
end Go.Dc
end
section
set_option linter.all false
namespace Go.Dc
open Go Go.Hw Go.Proofs
set_option maxRecDepth 100000
def program_checkObjects_L1 : List Var -> Nat -> Option (Unit ⊕ (Int × ProgramPlace))
 | [], k50 => some (.inl ())
 | x69 :: q65, k50 => Option.bind (program_value x69.Init) (fun y72 => cond (!y72) (some (.inr (2, ({ fn := (-1), inst := (-1) } : ProgramPlace)))) (program_checkObjects_L1 q65 (k50 + 1)))
def program_checkObjects (a0 : Program) : Option (Int × ProgramPlace) :=
 cond (orB (orB (orB (ltI 8 ((a0.Vars.length : Nat) : Int)) (ltI 4 ((a0.Mutexes.length : Nat) : Int))) (ltI 4 ((a0.Conds.length : Nat) : Int))) (ltI 8 ((a0.Funcs.length : Nat) : Int))) (some (4, ({ fn := (-1), inst := (-1) } : ProgramPlace))) (Option.bind (α := Unit ⊕ (Int × ProgramPlace)) (Option.bind (program_checkObjects_L1 a0.Vars 0) (fun o => match o with | .inl _ => some (.inl ()) | .inr r75 => some (.inr r75))) (fun o => match o with | .inl _ => some (0, ({ fn := (-1), inst := (-1) } : ProgramPlace)) | .inr r76 => some r76))
set_option maxHeartbeats 2000000 in
theorem at_program_checkObjects {a0 : Program} {r : Int × ProgramPlace} (hs : program_checkObjects a0 = some r) : At Tryd.prog 71 [.agg (eA a0)] (.tup [iV .i64 r.1, .agg (eA r.2)]) := by
 refine at_bound (by kernel_rfl) fun hb => ?_
 have hb1 : LenOk (.sl a0.Vars.length (encL a0.Vars)) := lkc hb
 have hb2 : LenOk (.sl a0.Mutexes.length (encL a0.Mutexes)) := lkc hb
 have hb3 : LenOk (.sl a0.Conds.length (encL a0.Conds)) := lkc hb
 have hb4 : LenOk (.sl a0.Funcs.length (encL a0.Funcs)) := lkc hb
 have hb5 : LenOk (.sl a0.Threads.length (encL a0.Threads)) := lkc hb
 refine at_code mixed Tryd.func71 (by kernel_rfl) rfl (by kernel_rfl) rfl fun Q hQ => ?_
 rw [program_checkObjects] at hs
 refine goG f0 f0 ?_
 revert hs; refine cS f0 ?_ ?_ <;> intro h1 hs
 ·refine goE f0 f0 ?_
  obtain rfl := sj hs
  exact hQ _ _ (rg f0 (Gh.refl _))
 ·refine goG2 f0 f0 ?_
  revert hs; refine bK fun o38 e37 hs => ?_
  refine awp_cutK (fun (v : Unit) (σ : St) => some (.inl v) = some o38 /\ σ.env 3 = .cell (.ref (.o 1 2 0) 0) /\ σ.env 4 = .cell (.ref (.o 2 1 0) 0) /\ σ.hp (.o 1 2 0) = some (.cells [nC 0, nC 0]) /\ σ.hp (.o 2 1 0) = some (.cells [nC (-1), nC (-1)]) /\ 4 <= σ.gen) (by rfl) (fun Q hK39 hX40 => ?_) (fun v σ3 hp => ?_)
  ·refine goG f0 f0 ?_
   revert e37; refine bK fun o60 e59 e37 => ?_
   refine awp_loopW (fun (v : (List Var) × Nat) (σ : St) => program_checkObjects_L1 v.1 v.2 = some o60 /\ v.1 = a0.Vars.drop v.2 /\ σ.env 3 = .cell (.ref (.o 1 2 0) 0) /\ σ.env 4 = .cell (.ref (.o 2 1 0) 0) /\ σ.env 32 = .cell (sC a0.Vars) /\ σ.env 33 = iV .i64 ((a0.Vars.length : Nat) : Int) /\ σ.env 34 = iV .i64 ((v.2 : Nat) : Int) /\ σ.hp (.o 1 2 0) = some (.cells [nC 0, nC 0]) /\ σ.hp (.o 2 1 0) = some (.cells [nC (-1), nC (-1)]) /\ 4 <= σ.gen) (fun v => v.1.length) _ (Gh.refl _) (a0.Vars, 0) ⟨e59, by simp, pv f0, pv f0, pv f0, pv f0, pv f0, pv f0, pv f0, pg⟩ fun v σ6 hp L61 hL62 => ?_
   obtain ⟨q64, k50⟩ := v
   dsimp only at hp hL62
   obtain ⟨e59, hd63, h5_3, h5_4, h5_32, h5_33, h5_34, g5_0, g5_1, n5_g⟩ := hp
   have n5_0 : ¬ (σ6.gen = 0) := by omega
   have n5_1 : ¬ (σ6.gen = 1) := by omega
   rcases q64 with _ | ⟨x69, q65⟩
   ·have hlt66 := drop_end hd63
    rw [program_checkObjects_L1] at e59; try dsimp only at e59
    have F1 := an h5_3 (an h5_4 (an h5_32 (an h5_33 (an h5_34 (an g5_0 (an g5_1 (an n5_0 n5_1)))))))
    refine goR F1 ?_
    refine condK_f (by simp [ltI]; omega) ?_
    obtain rfl := sj e59
    try dsimp only at e37
    exact hK39 () _ _ (Gh.refl _) ⟨e37, pv F1, pv F1, pv F1, pv F1, pg⟩
   ·obtain ⟨hx68, hlt66, hd70⟩ := drop_next hd63
    have ew67 := wrap_succ hlt66 (hb1).len
    rw [program_checkObjects_L1] at e59; try dsimp only at e59
    have F2 := an h5_3 (an h5_4 (an h5_32 (an h5_33 (an h5_34 (an g5_0 (an g5_1 (an n5_0 (an n5_1 (an hlt66 ew67)))))))))
    refine goR F2 ?_
    refine condK_t (by simp [ltI]; omega) ?_
    have f71 : partCV Tryd.prog 66 (encL a0.Vars) (k50 * 2) = some (.agg (eA x69)) := partCV_enc hx68 (f := 0) (by simp)
    have F3 := an F2 f71
    refine goR F3 ?_
    revert e59; refine bK fun y72 hx73 e59 => ?_
    refine cP F3 (at_program_value hx73) ?_
    refine goR F3 ?_
    revert e59; refine cS F3 ?_ ?_ <;> intro h74 e59
    ·refine goD F3 ?_
     obtain rfl := sj e59
     try dsimp only at e37
     obtain rfl := sj e37
     try dsimp only at hs
     refine hX40 _ _ (by simp) ?_
     refine goD F3 ?_
     obtain rfl := sj hs
     exact hQ _ _ (rg F3 (Gh.refl _))
    ·refine goR F3 ?_
     exact hL62 (q65, (k50 + 1)) _ _ (Gh.refl _) ⟨e59, hd70, pv F3, pv F3, pv F3, pv F3, pv F3, pv F3, pv F3, pg⟩ (by simp)
  ·obtain ⟨e37, h4_3, h4_4, g4_0, g4_1, n4_g⟩ := hp
   obtain rfl := sj e37
   try dsimp only at hs
   have n4_0 : ¬ (σ3.gen = 0) := by omega
   have n4_1 : ¬ (σ3.gen = 1) := by omega
   have F4 := an h4_3 (an h4_4 (an g4_0 (an g4_1 (an n4_0 n4_1))))
   refine goE F4 F4 ?_
   obtain rfl := sj hs
   exact hQ _ _ (rg F4 (Gh.refl _))
end Go.Dc
end
section
set_option linter.all false
namespace Go.Dc
open Go Go.Hw Go.Proofs
set_option maxRecDepth 100000
def program_checkCode_1 (a0 : Func) : Option Bool :=
 some (ltI 64 ((a0.Code.length : Nat) : Int))
set_option maxHeartbeats 2000000 in
theorem at_program_checkCode_1 {a0 : Func} {r : Bool} (hs : program_checkCode_1 a0 = some r) : At Tryd.prog 85 [.agg (eA a0)] (bV r) := by
 refine at_bound (by kernel_rfl) fun hb => ?_
 have hb1 : LenOk (.sl a0.Code.length (encL a0.Code)) := lkc hb
 refine at_code mixed Tryd.func85 (by kernel_rfl) rfl (by kernel_rfl) rfl fun Q hQ => ?_
 rw [program_checkCode_1] at hs
 refine goR f0 ?_
 obtain rfl := sj hs
 exact hQ _ _ (rg f0 (Gh.refl _))
end Go.Dc
end
section
set_option linter.all false
namespace Go.Dc
open Go Go.Hw Go.Proofs
set_option maxRecDepth 100000
def slices_IndexFunc_api_Func_program_checkCode_1_L1 : List Func -> Nat -> Option (Unit ⊕ Int)
 | [], k49 => some (.inl ())
 | x68 :: q64, k49 => Option.bind (program_checkCode_1 x68) (fun y71 => cond y71 (some (.inr ((k49 : Nat) : Int))) (slices_IndexFunc_api_Func_program_checkCode_1_L1 q64 (k49 + 1)))
def slices_IndexFunc_api_Func_program_checkCode_1 (a0 : List Func) : Option Int :=
 Option.bind (α := Unit ⊕ Int) (Option.bind (slices_IndexFunc_api_Func_program_checkCode_1_L1 a0 0) (fun o => match o with | .inl _ => some (.inl ()) | .inr r74 => some (.inr r74))) (fun o => match o with | .inl _ => some (-1) | .inr r75 => some r75)
set_option maxHeartbeats 2000000 in
theorem at_slices_IndexFunc_api_Func_program_checkCode_1 {a0 : List Func} {r : Int} (hs : slices_IndexFunc_api_Func_program_checkCode_1 a0 = some r) : At Tryd.prog 84 [.cell (sC a0), .cell (.p (.c (.func (.func 85) #[] #[])))] (iV .i64 r) := by
 refine at_bound (by kernel_rfl) fun hb => ?_
 have hb1 : LenOk (.sl a0.length (encL a0)) := lkc hb
 refine at_code mixed Tryd.func84 (by kernel_rfl) rfl (by kernel_rfl) rfl fun Q hQ => ?_
 rw [slices_IndexFunc_api_Func_program_checkCode_1] at hs
 refine goR2 f0 ?_
 revert hs; refine bK fun o37 e36 hs => ?_
 refine awp_cutK (fun (v : Unit) (σ : St) => some (.inl v) = some o37 /\ 2 <= σ.gen) (by rfl) (fun Q hK38 hX39 => ?_) (fun v σ3 hp => ?_)
 ·refine goR f0 ?_
  revert e36; refine bK fun o59 e58 e36 => ?_
  refine awp_loopW (fun (v : (List Func) × Nat) (σ : St) => slices_IndexFunc_api_Func_program_checkCode_1_L1 v.1 v.2 = some o59 /\ v.1 = a0.drop v.2 /\ σ.env 0 = .cell (sC a0) /\ σ.env 1 = .cell (.p (.c (.func (.func 85) #[] #[]))) /\ σ.env 7 = iV .i64 ((a0.length : Nat) : Int) /\ σ.env 8 = iV .i64 ((v.2 : Nat) : Int) /\ 2 <= σ.gen) (fun v => v.1.length) _ (Gh.refl _) (a0, 0) ⟨e58, by simp, pv f0, pv f0, pv f0, pv f0, pg⟩ fun v σ6 hp L60 hL61 => ?_
  obtain ⟨q63, k49⟩ := v
  dsimp only at hp hL61
  obtain ⟨e58, hd62, h5_0, h5_1, h5_7, h5_8, n5_g⟩ := hp
  rcases q63 with _ | ⟨x68, q64⟩
  ·have hlt65 := drop_end hd62
   rw [slices_IndexFunc_api_Func_program_checkCode_1_L1] at e58; try dsimp only at e58
   have F1 := an h5_0 (an h5_1 (an h5_7 h5_8))
   refine goR F1 ?_
   refine condK_f (by simp [ltI]; omega) ?_
   obtain rfl := sj e58
   try dsimp only at e36
   exact hK38 () _ _ (Gh.refl _) ⟨e36, pg⟩
  ·obtain ⟨hx67, hlt65, hd69⟩ := drop_next hd62
   have ew66 := wrap_succ hlt65 (hb1).len
   rw [slices_IndexFunc_api_Func_program_checkCode_1_L1] at e58; try dsimp only at e58
   have F2 := an h5_0 (an h5_1 (an h5_7 (an h5_8 (an hlt65 ew66))))
   refine goR F2 ?_
   refine condK_t (by simp [ltI]; omega) ?_
   have f70 : partCV Tryd.prog 56 (encL a0) (k49 * 2) = some (.agg (eA x68)) := partCV_enc hx67 (f := 0) (by simp)
   have F3 := an F2 f70
   refine goR F3 ?_
   revert e58; refine bK fun y71 hx72 e58 => ?_
   refine cP F3 (at_program_checkCode_1 hx72) ?_
   refine goR F3 ?_
   revert e58; refine cS F3 ?_ ?_ <;> intro h73 e58
   ·refine goR F3 ?_
    obtain rfl := sj e58
    try dsimp only at e36
    obtain rfl := sj e36
    try dsimp only at hs
    refine hX39 _ _ (by simp) ?_
    refine goR F3 ?_
    obtain rfl := sj hs
    exact hQ _ _ (rg F3 (Gh.refl _))
   ·refine goR F3 ?_
    exact hL61 (q64, (k49 + 1)) _ _ (Gh.refl _) ⟨e58, hd69, pv F3, pv F3, pv F3, pv F3, pg⟩ (by simp)
 ·obtain ⟨e36, n4_g⟩ := hp
  obtain rfl := sj e36
  try dsimp only at hs
  refine goR f0 ?_
  obtain rfl := sj hs
  exact hQ _ _ (rg f0 (Gh.refl _))
end Go.Dc
end
section
set_option linter.all false
namespace Go.Dc
open Go Go.Hw Go.Proofs
set_option maxRecDepth 100000
def program_instructions (a0 : Program) : Option Program :=
 some a0
set_option maxHeartbeats 2000000 in
theorem at_program_instructions {a0 : Program} {r : Program} (hs : program_instructions a0 = some r) : At Tryd.prog 86 [.agg (eA a0)] (.cell (.fn 94 [.inr (.bx [.sl r.Vars.length (encL r.Vars), .sl r.Mutexes.length (encL r.Mutexes), .sl r.Conds.length (encL r.Conds), .sl r.Funcs.length (encL r.Funcs), .sl r.Threads.length (encL r.Threads)])])) := by
 refine at_bound (by kernel_rfl) fun hb => ?_
 have hb1 : LenOk (.sl a0.Vars.length (encL a0.Vars)) := lkc hb
 have hb2 : LenOk (.sl a0.Mutexes.length (encL a0.Mutexes)) := lkc hb
 have hb3 : LenOk (.sl a0.Conds.length (encL a0.Conds)) := lkc hb
 have hb4 : LenOk (.sl a0.Funcs.length (encL a0.Funcs)) := lkc hb
 have hb5 : LenOk (.sl a0.Threads.length (encL a0.Threads)) := lkc hb
 refine at_code mixed Tryd.func86 (by kernel_rfl) rfl (by kernel_rfl) rfl fun Q hQ => ?_
 rw [program_instructions] at hs
 refine goR f0 ?_
 obtain rfl := sj hs
 exact hQ _ _ (rg f0 (Gh.frz _ (.o 1 0 0)))
end Go.Dc
end
section
set_option linter.all false
namespace Go.Dc
open Go Go.Hw Go.Proofs
set_option maxRecDepth 100000
def program_objects (a0 : Program) (a1 : Int) : Option Int :=
 Option.bind (α := Unit ⊕ Int) (Option.bind (α := Bool) (cond (eqI a1 8) (some (eqI a1 8)) (cond (eqI a1 9) (some (eqI a1 9)) (cond (eqI a1 10) (some (eqI a1 10)) (cond (eqI a1 11) (some (eqI a1 11)) (cond (eqI a1 12) (some (eqI a1 12)) (some (eqI a1 14))))))) (fun b40 => cond b40 (some (.inr ((a0.Vars.length : Nat) : Int))) (Option.bind (α := Bool) (cond (eqI a1 15) (some (eqI a1 15)) (cond (eqI a1 16) (some (eqI a1 16)) (some (eqI a1 17)))) (fun b53 => cond b53 (some (.inr ((a0.Mutexes.length : Nat) : Int))) (cond (eqI a1 18) (some (.inr ((a0.Conds.length : Nat) : Int))) (cond (eqI a1 19) (some (.inr ((a0.Conds.length : Nat) : Int))) (cond (eqI a1 20) (some (.inr ((a0.Conds.length : Nat) : Int))) (cond (eqI a1 21) (some (.inr ((a0.Funcs.length : Nat) : Int))) (some (.inl ())))))))))) (fun o => match o with | .inl _ => some (-1) | .inr r65 => some r65)
set_option maxHeartbeats 2000000 in
theorem at_program_objects {a0 : Program} {a1 : Int} {r : Int} (hs : program_objects a0 a1 = some r) : At Tryd.prog 96 [.agg (eA a0), iV .i64 a1] (iV .i64 r) := by
 refine at_bound (by kernel_rfl) fun hb => ?_
 have hb1 : LenOk (.sl a0.Vars.length (encL a0.Vars)) := lkc hb
 have hb2 : LenOk (.sl a0.Mutexes.length (encL a0.Mutexes)) := lkc hb
 have hb3 : LenOk (.sl a0.Conds.length (encL a0.Conds)) := lkc hb
 have hb4 : LenOk (.sl a0.Funcs.length (encL a0.Funcs)) := lkc hb
 have hb5 : LenOk (.sl a0.Threads.length (encL a0.Threads)) := lkc hb
 refine at_code mixed Tryd.func96 (by kernel_rfl) rfl (by kernel_rfl) rfl fun Q hQ => ?_
 rw [program_objects] at hs
 refine goR2 f0 ?_
 revert hs; refine bK fun o32 e31 hs => ?_
 refine awp_cutK (fun (v : Unit) (σ : St) => some (.inl v) = some o32 /\ 2 <= σ.gen) (by rfl) (fun Q hK33 hX34 => ?_) (fun v σ5 hp => ?_)
 ·refine goR2 f0 ?_
  refine awp_block ?_
  refine goR2 f0 ?_
  revert e31; refine bK fun o42 e41 e31 => ?_
  refine awp_cut0 (fun (v : Bool) (σ : St) => some (v) = some o42 /\ σ.env 2 = .cell (.ref (.o 1 0 0) 0) /\ σ.env 5 = iV .i64 a1 /\ σ.env 6 = bV v /\ σ.hp (.o 1 0 0) = some (.cells (eA a0)) /\ 3 <= σ.gen) (fun Q hK43 hX44 => ?_) (fun b40 σ7 hp => ?_)
  ·refine goR f0 ?_
   revert e41; refine cS f0 ?_ ?_ <;> intro h45 e41
   ·refine goR f0 ?_
    exact hK43 (eqI a1 8) _ ⟨e41, pv f0, pv f0, pv f0, pv f0, pg⟩
   ·refine goR f0 ?_
    revert e41; refine cS f0 ?_ ?_ <;> intro h46 e41
    ·refine goR f0 ?_
     exact hK43 (eqI a1 9) _ ⟨e41, pv f0, pv f0, pv f0, pv f0, pg⟩
    ·refine goR f0 ?_
     revert e41; refine cS f0 ?_ ?_ <;> intro h47 e41
     ·refine goR f0 ?_
      exact hK43 (eqI a1 10) _ ⟨e41, pv f0, pv f0, pv f0, pv f0, pg⟩
     ·refine goR f0 ?_
      revert e41; refine cS f0 ?_ ?_ <;> intro h48 e41
      ·refine goR f0 ?_
       exact hK43 (eqI a1 11) _ ⟨e41, pv f0, pv f0, pv f0, pv f0, pg⟩
      ·refine goR f0 ?_
       revert e41; refine cS f0 ?_ ?_ <;> intro h49 e41
       ·refine goR f0 ?_
        exact hK43 (eqI a1 12) _ ⟨e41, pv f0, pv f0, pv f0, pv f0, pg⟩
       ·refine goR f0 ?_
        exact hK43 (eqI a1 14) _ ⟨e41, pv f0, pv f0, pv f0, pv f0, pg⟩
  ·obtain ⟨e41, h8_2, h8_5, h8_6, g8_0, n8_g⟩ := hp
   obtain rfl := sj e41
   try dsimp only at e31
   have n8_0 : ¬ (σ7.gen = 0) := by omega
   have F1 := an h8_2 (an h8_5 (an h8_6 (an g8_0 n8_0)))
   refine goR F1 ?_
   revert e31; refine cS F1 ?_ ?_ <;> intro h50 e31
   ·refine goR F1 ?_
    obtain rfl := sj e31
    try dsimp only at hs
    refine hX34 _ _ (by simp) ?_
    refine goR F1 ?_
    obtain rfl := sj hs
    exact hQ _ _ (rg F1 (Gh.refl _))
   ·refine goR2 F1 ?_
    revert e31; refine bK fun o55 e54 e31 => ?_
    refine awp_cut0 (fun (v : Bool) (σ : St) => some (v) = some o55 /\ σ.env 2 = .cell (.ref (.o 1 0 0) 0) /\ σ.env 5 = iV .i64 a1 /\ σ.env 16 = bV v /\ σ.hp (.o 1 0 0) = some (.cells (eA a0)) /\ (σ7.gen + 1) <= σ.gen) (fun Q hK56 hX57 => ?_) (fun b53 σ9 hp => ?_)
    ·refine goR F1 ?_
     revert e54; refine cS F1 ?_ ?_ <;> intro h58 e54
     ·refine goR F1 ?_
      exact hK56 (eqI a1 15) _ ⟨e54, pv F1, pv F1, pv F1, pv F1, pg⟩
     ·refine goR F1 ?_
      revert e54; refine cS F1 ?_ ?_ <;> intro h59 e54
      ·refine goR F1 ?_
       exact hK56 (eqI a1 16) _ ⟨e54, pv F1, pv F1, pv F1, pv F1, pg⟩
      ·refine goR F1 ?_
       exact hK56 (eqI a1 17) _ ⟨e54, pv F1, pv F1, pv F1, pv F1, pg⟩
    ·obtain ⟨e54, h10_2, h10_5, h10_16, g10_0, n10_g⟩ := hp
     obtain rfl := sj e54
     try dsimp only at e31
     have n10_0 : ¬ (σ9.gen = 0) := by omega
     have F2 := an h10_2 (an h10_5 (an h10_16 (an g10_0 n10_0)))
     refine goR F2 ?_
     revert e31; refine cS F2 ?_ ?_ <;> intro h60 e31
     ·refine goR F2 ?_
      obtain rfl := sj e31
      try dsimp only at hs
      refine hX34 _ _ (by simp) ?_
      refine goR F2 ?_
      obtain rfl := sj hs
      exact hQ _ _ (rg F2 (Gh.refl _))
     ·refine goR F2 ?_
      revert e31; refine cS F2 ?_ ?_ <;> intro h61 e31
      ·refine goR F2 ?_
       refine condK_t (by first | exact h61 | simpa using h61) ?_
       refine goR F2 ?_
       obtain rfl := sj e31
       try dsimp only at hs
       refine hX34 _ _ (by simp) ?_
       refine goR F2 ?_
       obtain rfl := sj hs
       exact hQ _ _ (rg F2 (Gh.refl _))
      ·refine goR F2 ?_
       revert e31; refine cS F2 ?_ ?_ <;> intro h62 e31
       ·refine goR F2 ?_
        refine condK_t (by first | exact h62 | simpa using h62) ?_
        refine goR F2 ?_
        obtain rfl := sj e31
        try dsimp only at hs
        refine hX34 _ _ (by simp) ?_
        refine goR F2 ?_
        obtain rfl := sj hs
        exact hQ _ _ (rg F2 (Gh.refl _))
       ·refine goR F2 ?_
        revert e31; refine cS F2 ?_ ?_ <;> intro h63 e31
        ·refine goR F2 ?_
         obtain rfl := sj e31
         try dsimp only at hs
         refine hX34 _ _ (by simp) ?_
         refine goR F2 ?_
         obtain rfl := sj hs
         exact hQ _ _ (rg F2 (Gh.refl _))
        ·refine goR F2 ?_
         revert e31; refine cS F2 ?_ ?_ <;> intro h64 e31
         ·refine goR F2 ?_
          obtain rfl := sj e31
          try dsimp only at hs
          refine hX34 _ _ (by simp) ?_
          refine goR F2 ?_
          obtain rfl := sj hs
          exact hQ _ _ (rg F2 (Gh.refl _))
         ·refine goR F2 ?_
          exact hK33 () _ _ (Gh.refl _) ⟨e31, pg⟩
 ·obtain ⟨e31, n6_g⟩ := hp
  obtain rfl := sj e31
  try dsimp only at hs
  refine goR f0 ?_
  obtain rfl := sj hs
  exact hQ _ _ (rg f0 (Gh.refl _))
end Go.Dc
end
section
set_option linter.all false
namespace Go.Dc
open Go Go.Hw Go.Proofs
set_option maxRecDepth 100000
def program_checkInst (fuelN : Nat) (a0 : Program) (a1 : Inst) (a2 : Int) : Option Int :=
 Option.bind (inst_Check fuelN a1) (fun y1 => cond (!(eqI y1 0)) (some y1) (Option.bind (program_objects a0 a1.Op) (fun y4 => cond (andB (!(ltI y4 0)) (orB (ltI a1.Obj 0) (!(ltI a1.Obj y4)))) (some 11) (cond (andB (eqI a1.Op 18) (orB (ltI a1.N 0) (!(ltI a1.N ((a0.Mutexes.length : Nat) : Int))))) (some 11) (cond (andB (orB (eqI a1.Op 4) (eqI a1.Op 5)) (orB (ltI a1.N 0) (ltI a2 a1.N))) (some 12) (some 0))))))
set_option maxHeartbeats 2000000 in
theorem at_program_checkInst {fuelN : Nat} {a0 : Program} {a1 : Inst} {a2 : Int} {r : Int} (hs : program_checkInst fuelN a0 a1 a2 = some r) : At Tryd.prog 87 [.agg (eA a0), .agg (eA a1), iV .i64 a2] (iV .i64 r) := by
 refine at_bound (by kernel_rfl) fun hb => ?_
 have hb1 : LenOk (.sl a0.Vars.length (encL a0.Vars)) := lkc hb
 have hb2 : LenOk (.sl a0.Mutexes.length (encL a0.Mutexes)) := lkc hb
 have hb3 : LenOk (.sl a0.Conds.length (encL a0.Conds)) := lkc hb
 have hb4 : LenOk (.sl a0.Funcs.length (encL a0.Funcs)) := lkc hb
 have hb5 : LenOk (.sl a0.Threads.length (encL a0.Threads)) := lkc hb
 refine at_code mixed Tryd.func87 (by kernel_rfl) rfl (by kernel_rfl) rfl fun Q hQ => ?_
 rw [program_checkInst] at hs
 refine goR f0 ?_
 revert hs; refine bK fun y1 hx2 hs => ?_
 refine cP f0 (at_inst_Check hx2) ?_
 refine goR f0 ?_
 revert hs; refine cS f0 ?_ ?_ <;> intro h3 hs
 ·refine goR f0 ?_
  obtain rfl := sj hs
  exact hQ _ _ (rg f0 (Gh.refl _))
 ·refine goR f0 ?_
  revert hs; refine bK fun y4 hx5 hs => ?_
  refine cP f0 (at_program_objects hx5) ?_
  refine goG f0 f0 ?_
  revert hs; refine cS f0 ?_ ?_ <;> intro h6 hs
  ·refine goG f0 f0 ?_
   obtain rfl := sj hs
   exact hQ _ _ (rg f0 (Gh.refl _))
  ·refine goG f0 f0 ?_
   revert hs; refine cS f0 ?_ ?_ <;> intro h7 hs
   ·refine goG f0 f0 ?_
    obtain rfl := sj hs
    exact hQ _ _ (rg f0 (Gh.refl _))
   ·refine goG f0 f0 ?_
    revert hs; refine cS f0 ?_ ?_ <;> intro h8 hs
    ·refine goG f0 f0 ?_
     obtain rfl := sj hs
     exact hQ _ _ (rg f0 (Gh.refl _))
    ·refine goG f0 f0 ?_
     obtain rfl := sj hs
     exact hQ _ _ (rg f0 (Gh.refl _))
end Go.Dc
end
section
set_option linter.all false
namespace Go.Dc
open Go Go.Hw Go.Proofs
set_option maxRecDepth 100000
def insC (a : Nat) : Nat -> List Inst -> List (ProgramPlace × Inst)
 | _, [] => []
 | b, i :: r => (⟨(a : Int), (b : Int)⟩, i) :: insC a (b + 1) r
def insF : Nat -> List Func -> List (ProgramPlace × Inst)
 | _, [] => []
 | a, f :: r => insC a 0 f.Code ++ insF (a + 1) r
def it_instructions (p : Program) : Option (List (ProgramPlace × Inst)) :=
 guardO (lenB p.Funcs.length && p.Funcs.all fun f => lenB f.Code.length) (some (insF 0 p.Funcs))
abbrev insEv : ProgramPlace × Inst -> List EV := fun y => ([.agg [.c (.int .i64 y.1.fn), .c (.int .i64 y.1.inst)], .agg [.c (.int .i64 y.2.Op), .c (.int .i64 y.2.A), .c (.int .i64 y.2.B), .c (.int .i64 y.2.C), .c (.int .i64 y.2.Obj), .c (.int .i64 y.2.N), .c (.int .i64 y.2.Fn), .c (.int .i64 y.2.Order)]] : List EV)
set_option maxHeartbeats 2000000 in
theorem seq_instructions {p : Program} {xs : List (ProgramPlace × Inst)} (h : it_instructions p = some xs) : SeqAt Tryd.prog 94 [.cell (.p (.bx [.sl p.Vars.length (encL p.Vars), .sl p.Mutexes.length (encL p.Mutexes), .sl p.Conds.length (encL p.Conds), .sl p.Funcs.length (encL p.Funcs), .sl p.Threads.length (encL p.Threads)]))] (xs.map insEv) := by
 obtain ⟨g, h⟩ := guardO_some h
 obtain rfl := Option.some.inj h
 simp only [Bool.and_eq_true, List.all_eq_true] at g
 obtain ⟨g1, g2⟩ := g
 refine seq_unbx (by simp; rfl) ?_
 refine seq_code mixed Tryd.func94 (by kernel_rfl) rfl (by kernel_rfl) rfl fun ℓ Q hQ => ?_
 repeat (first | simp | with_reducible refine awp_reg ?_)
 refine awp_loopW (fun (v : Nat × Nat) (σ : St) => v.1 <= p.Funcs.length /\ (insF 0 p.Funcs).drop v.2 = insF v.1 (p.Funcs.drop v.1) /\ v.2 <= (insF 0 p.Funcs).length /\ σ.env 10 = iV .i64 (v.1 : Nat) /\ σ.env 8 = .cell (.p (.sl p.Funcs.length (encL p.Funcs))) /\ σ.env 9 = iV .i64 p.Funcs.length /\ σ.env 0 = .cell (.yl ℓ) /\ σ.acc = some ⟨ℓ, (insF 0 p.Funcs).map insEv, v.2, true⟩) (fun v => p.Funcs.length - v.1) _ (Gh.refl _) (0, 0) ⟨by simp, by simp, by simp, by simp, by simp, by simp, by simp, by simp⟩ fun v σ hp L hL => ?_
 obtain ⟨a, n⟩ := v
 dsimp only at hp hL
 obtain ⟨ha, hn, hnl, h10, h8, h9, h0, hacc⟩ := hp
 repeat (first | simp [h10, h8, h9, h0, hacc] | with_reducible refine awp_reg ?_)
 by_cases hlt : a < p.Funcs.length
 ·refine condK_t (by simp [ltI]; omega) ?_
  have hx := List.getElem?_eq_getElem hlt
  have ew := wrap_succG hlt g1
  have hcl := g2 _ (List.getElem_mem hlt)
  rw [List.drop_eq_getElem_cons hlt] at hn
  generalize p.Funcs[a] = f at *
  have f1 : partCV Tryd.prog 56 (encL p.Funcs) (a * 2) = some (.agg [.p (.c (.string f.Name)), .p (.sl f.Code.length (encL f.Code))]) := partCV_enc hx (f := 0) (by simp)
  repeat (first | simp [h10, h8, h9, h0, hacc, f1, hlt] | with_reducible refine awp_reg ?_ | with_reducible refine optF_if (by omega) ?_)
  refine awp_loopW (fun (v : Nat × Nat) (σ2 : St) => v.1 <= f.Code.length /\ (insF 0 p.Funcs).drop v.2 = insC a v.1 (f.Code.drop v.1) ++ insF (a + 1) (p.Funcs.drop (a + 1)) /\ v.2 <= (insF 0 p.Funcs).length /\ σ2.env 18 = iV .i64 (v.1 : Nat) /\ σ2.env 16 = .cell (.p (.sl f.Code.length (encL f.Code))) /\ σ2.env 17 = iV .i64 f.Code.length /\ σ2.env 3 = iV .i64 a /\ σ2.env 10 = iV .i64 a /\ σ2.env 8 = .cell (.p (.sl p.Funcs.length (encL p.Funcs))) /\ σ2.env 9 = iV .i64 p.Funcs.length /\ σ2.env 0 = .cell (.yl ℓ) /\ σ2.acc = some ⟨ℓ, (insF 0 p.Funcs).map insEv, v.2, true⟩) (fun v => f.Code.length - v.1) _ (Gh.refl _) (0, n) ⟨by simp, by simpa [insF] using hn, hnl, by simp [h10, h8, h9, h0, hacc], by simp [h10, h8, h9, h0, hacc], by simp [h10, h8, h9, h0, hacc], by simp [h10, h8, h9, h0, hacc], by simp [h10, h8, h9, h0, hacc], by simp [h10, h8, h9, h0, hacc], by simp [h10, h8, h9, h0, hacc], by simp [h10, h8, h9, h0, hacc], by simp [h10, h8, h9, h0, hacc]⟩ fun v σ2 hp L2 hL2 => ?_
  obtain ⟨b, m⟩ := v
  dsimp only at hp hL2
  obtain ⟨hb, hm, hml, k18, k16, k17, k3, k10, k8, k9, k0, kacc⟩ := hp
  repeat (first | simp [k18, k16, k17, k3, k10, k8, k9, k0, kacc] | with_reducible refine awp_reg ?_)
  by_cases hltb : b < f.Code.length
  ·refine condK_t (by simp [ltI]; omega) ?_
   have hxb := List.getElem?_eq_getElem hltb
   have ewb := wrap_succG hltb hcl
   rw [List.drop_eq_getElem_cons hltb] at hm
   generalize f.Code[b] = i at *
   have hy : (insF 0 p.Funcs)[m]? = some (⟨(a : Int), (b : Int)⟩, i) := by
    have : ((insF 0 p.Funcs).drop m)[0]? = some (⟨(a : Int), (b : Int)⟩, i) := by rw [hm]; rfl
    simpa using this
   have hm1 : (insF 0 p.Funcs).drop (m + 1) = insC a (b + 1) (f.Code.drop (b + 1)) ++ insF (a + 1) (p.Funcs.drop (a + 1)) := by
    rw [<- List.drop_drop, hm]; rfl
   have hm2 : m + 1 <= (insF 0 p.Funcs).length := (List.getElem?_eq_some_iff.1 hy).1
   have hye : ((insF 0 p.Funcs).map insEv)[m]? = some (insEv (⟨(a : Int), (b : Int)⟩, i)) := by rw [List.getElem?_map, hy]; rfl
   have hye' : Option.map insEv (insF 0 p.Funcs)[m]? = some (insEv (⟨(a : Int), (b : Int)⟩, i)) := by rw [hy]; rfl
   have f2 : partCV Tryd.prog 72 (encL f.Code) (b * 8) = some (.agg [.p (.c (.int .i64 i.Op)), .p (.c (.int .i64 i.A)), .p (.c (.int .i64 i.B)), .p (.c (.int .i64 i.C)), .p (.c (.int .i64 i.Obj)), .p (.c (.int .i64 i.N)), .p (.c (.int .i64 i.Fn)), .p (.c (.int .i64 i.Order))]) := partCV_enc hxb (f := 0) (by simp)
   repeat (first | simp [k18, k16, k17, k3, k10, k8, k9, k0, kacc, f2, hltb, hy] | with_reducible refine awp_reg ?_ | with_reducible refine optF_if (by omega) ?_)
   refine ⟨?_, ?_⟩
   ·repeat (first | simp [k18, k16, k17, k3, k10, k8, k9, k0, kacc, ewb] | with_reducible refine awp_reg ?_)
    exact hL2 (b + 1, m + 1) _ _ (Gh.refl _) ⟨hltb, hm1, hm2, by simp [k18, ewb], by simp [k16], by simp [k17], by simp [k3], by simp [k10], by simp [k8], by simp [k9], by simp [k0], by simp⟩ (by simp; omega)
   ·repeat (first | simp [k18, k16, k17, k3, k10, k8, k9, k0, kacc] | with_reducible refine awp_reg ?_)
    refine hQ _ _ (seqPost_end (.inr rfl) (by simp; rfl) (by simp; first | exact ⟨rfl, rfl⟩ | exact ⟨rfl, rfl, rfl⟩ | rfl) ?_)
    simp
  ·refine condK_f (by simp [ltI]; omega) ?_
   have : b = f.Code.length := by omega
   subst this
   have hn' : (insF 0 p.Funcs).drop m = insF (a + 1) (p.Funcs.drop (a + 1)) := by rw [hm]; simp [insC]
   repeat (first | simp [k18, k16, k17, k3, k10, k8, k9, k0, kacc, ew] | with_reducible refine awp_reg ?_)
   exact hL (a + 1, m) _ _ (Gh.refl _) ⟨hlt, hn', hml, by simp [k10, ew], by simp [k8], by simp [k9], by simp [k0], by simp [kacc]⟩ (by simp; omega)
 ·refine condK_f (by simp [ltI]; omega) ?_
  have : a = p.Funcs.length := by omega
  subst this
  repeat (first | simp [h10, h8, h9, h0, hacc] | with_reducible refine awp_reg ?_)
  refine hQ _ _ (seqPost_end (.inl rfl) (by simp; rfl) (by simp [hacc]; first | exact ⟨rfl, rfl⟩ | exact ⟨rfl, rfl, rfl⟩ | rfl) ?_)
  intro _
  have := congrArg List.length hn
  simp [insF] at this
  simp
  omega
end Go.Dc
end
section
set_option linter.all false
namespace Go.Dc
open Go Go.Hw Go.Proofs
set_option maxRecDepth 100000
def program_checkCode_L1 (fuelN : Nat) (a0 : Program) (y1 : Int) : List (ProgramPlace × Inst) -> Option (Unit ⊕ (Unit ⊕ (Int × ProgramPlace)))
 | [] => some (.inl ())
 | y7 :: q28 => cond (eqI y7.1.fn y1) (some (.inr (.inl ()))) (Option.bind (getI a0.Funcs y7.1.fn) (fun x36 => Option.bind (program_checkInst fuelN a0 y7.2 ((x36.Code.length : Nat) : Int)) (fun y39 => cond (!(eqI y39 0)) (some (.inr (.inr (y39, y7.1)))) (program_checkCode_L1 fuelN a0 y1 q28))))
def program_checkCode (fuelN : Nat) (a0 : Program) : Option (Int × ProgramPlace) :=
 Option.bind (slices_IndexFunc_api_Func_program_checkCode_1 a0.Funcs) (fun y1 => Option.bind (program_instructions a0) (fun y3 => Option.bind (it_instructions y3) (fun xs5 => Option.bind (program_checkCode_L1 fuelN a0 y1 xs5) (fun o => match o with | .inl _ => cond (!(ltI y1 0)) (some (4, ({ fn := y1, inst := (-1) } : ProgramPlace))) (some (0, ({ fn := (-1), inst := (-1) } : ProgramPlace))) | .inr (.inl _) => cond (!(ltI y1 0)) (some (4, ({ fn := y1, inst := (-1) } : ProgramPlace))) (some (0, ({ fn := (-1), inst := (-1) } : ProgramPlace))) | .inr (.inr r45) => some r45))))
set_option maxHeartbeats 2000000 in
theorem at_program_checkCode {fuelN : Nat} {a0 : Program} {r : Int × ProgramPlace} (hs : program_checkCode fuelN a0 = some r) : At Tryd.prog 72 [.agg (eA a0)] (.tup [iV .i64 r.1, .agg (eA r.2)]) := by
 refine at_bound (by kernel_rfl) fun hb => ?_
 have hb1 : LenOk (.sl a0.Vars.length (encL a0.Vars)) := lkc hb
 have hb2 : LenOk (.sl a0.Mutexes.length (encL a0.Mutexes)) := lkc hb
 have hb3 : LenOk (.sl a0.Conds.length (encL a0.Conds)) := lkc hb
 have hb4 : LenOk (.sl a0.Funcs.length (encL a0.Funcs)) := lkc hb
 have hb5 : LenOk (.sl a0.Threads.length (encL a0.Threads)) := lkc hb
 refine at_code mixed Tryd.func72 (by kernel_rfl) rfl (by kernel_rfl) rfl fun Q hQ => ?_
 rw [program_checkCode] at hs
 refine goR f0 ?_
 revert hs; refine bK fun y1 hx2 hs => ?_
 refine cP f0 (at_slices_IndexFunc_api_Func_program_checkCode_1 hx2) ?_
 refine goR f0 ?_
 revert hs; refine bK fun y3 hx4 hs => ?_
 refine cP f0 (at_program_instructions hx4) ?_
 refine goR f0 ?_
 revert hs; refine bK fun xs5 hx6 hs => ?_
 revert hs; refine bK fun o22 e21 hs => ?_
 refine awp_range (gf := 94) (cs := [.bx [.sl y3.Vars.length (encL y3.Vars), .sl y3.Mutexes.length (encL y3.Mutexes), .sl y3.Conds.length (encL y3.Conds), .sl y3.Funcs.length (encL y3.Funcs), .sl y3.Threads.length (encL y3.Threads)]]) (xs5.map (fun (y : ProgramPlace × Inst) => ([.agg [.c (.int .i64 y.1.fn), .c (.int .i64 y.1.inst)], .agg [.c (.int .i64 y.2.Op), .c (.int .i64 y.2.A), .c (.int .i64 y.2.B), .c (.int .i64 y.2.C), .c (.int .i64 y.2.Obj), .c (.int .i64 y.2.N), .c (.int .i64 y.2.Fn), .c (.int .i64 y.2.Order)]] : List EV))) (fun (k23 : Nat) (hp24 : Go.Hw.Id -> Option Blk) (gen25 : Nat) => program_checkCode_L1 fuelN a0 y1 (xs5.drop k23) = some o22 /\ hp24 (.o 1 0 0) = some (.cells (eA a0)) /\ hp24 (.o 1 1 0) = some (.cells [nC 0]) /\ hp24 (.o 1 2 0) = some (.cells [nC 0, nC 0]) /\ hp24 (.o 2 3 0) = some (.cells [nC y1]) /\ 3 <= gen25) _ (Gh.refl _) (pv f0) (seq_instructions hx6) (fun x hx => by obtain ⟨y, _, rfl⟩ := List.mem_map.1 hx; rfl) ⟨e21, pv f0, pv f0, pv f0, pv f0, pg⟩ (fun k23 x hp24 gen25 hx hI => ?_) (fun hp24 gen25 hI => ?_)
 ·obtain ⟨e21, g1_0, g1_1, g1_2, g1_3, n1_g⟩ := hI
  try dsimp only at e21 g1_0 g1_1 g1_2 g1_3 n1_g
  obtain ⟨y7, hy26, rfl⟩ := map_get hx
  rw [drop_at hy26, program_checkCode_L1] at e21; try dsimp only at e21
  have n1_0 : ¬ (gen25 = 0) := by omega
  have n1_1 : ¬ (gen25 = 1) := by omega
  have F1 := an g1_0 (an g1_1 (an g1_2 (an g1_3 (an n1_0 n1_1))))
  refine goR F1 ?_
  revert e21; refine cS F1 ?_ ?_ <;> intro h29 e21
  ·refine goR F1 ?_
   obtain rfl := sj e21
   try dsimp only at hs
   refine rPost_exit ?_
   refine goR F1 ?_
   revert hs; refine cS F1 ?_ ?_ <;> intro h30 hs
   ·refine goD F1 ?_
    obtain rfl := sj hs
    exact hQ _ _ (rg F1 (Gh.refl _))
   ·refine goR F1 ?_
    obtain rfl := sj hs
    exact hQ _ _ (rg F1 (Gh.refl _))
  ·revert e21; refine bK fun x36 hx37 e21 => ?_
   obtain ⟨hx37a, hx37b, hx37c, hx37d⟩ := getI_some hx37
   have f38 : partCV Tryd.prog 54 (encL a0.Funcs) (((y7.1.fn).toNat) * 2 + 1) = some (.cell (sC x36.Code)) := partCV_enc hx37d (f := 1) (by simp)
   have F2 := an F1 f38
   refine goD F2 ?_
   revert e21; refine bK fun y39 hx40 e21 => ?_
   refine cP F2 (at_program_checkInst hx40) ?_
   refine goD F2 ?_
   revert e21; refine cS F2 ?_ ?_ <;> intro h41 e21
   ·refine goD F2 ?_
    obtain rfl := sj e21
    try dsimp only at hs
    refine rPost_ret ?_
    refine goD F2 ?_
    obtain rfl := sj hs
    exact hQ _ _ (rg F2 (Gh.refl _))
   ·refine goD F2 ?_
    refine rPost_gh (Gh.refl _) ⟨e21, pv F2, pv F2, pv F2, pv F2, pg⟩
 ·obtain ⟨e21, g1_0, g1_1, g1_2, g1_3, n1_g⟩ := hI
  try dsimp only at e21 g1_0 g1_1 g1_2 g1_3 n1_g
  rw [show xs5.drop (xs5.map (fun (y : ProgramPlace × Inst) => ([.agg [.c (.int .i64 y.1.fn), .c (.int .i64 y.1.inst)], .agg [.c (.int .i64 y.2.Op), .c (.int .i64 y.2.A), .c (.int .i64 y.2.B), .c (.int .i64 y.2.C), .c (.int .i64 y.2.Obj), .c (.int .i64 y.2.N), .c (.int .i64 y.2.Fn), .c (.int .i64 y.2.Order)]] : List EV))).length = [] by simp, program_checkCode_L1] at e21; try dsimp only at e21
  have n1_0 : ¬ (gen25 = 0) := by omega
  have n1_1 : ¬ (gen25 = 1) := by omega
  obtain rfl := sj e21
  try dsimp only at hs
  have F3 := an g1_0 (an g1_1 (an g1_2 (an g1_3 (an n1_0 n1_1))))
  refine goR F3 ?_
  revert hs; refine cS F3 ?_ ?_ <;> intro h42 hs
  ·refine goD F3 ?_
   obtain rfl := sj hs
   exact hQ _ _ (rg F3 (Gh.refl _))
  ·refine goR F3 ?_
   obtain rfl := sj hs
   exact hQ _ _ (rg F3 (Gh.refl _))
end Go.Dc
end
section
set_option linter.all false
namespace Go.Dc
open Go Go.Hw Go.Proofs
set_option maxRecDepth 100000
def program_checkThreads_L1 (a0 : Program) : List Start -> Nat -> Option (Unit ⊕ (Int × ProgramPlace))
 | [], k54 => some (.inl ())
 | x74 :: q70, k54 => cond (orB (ltI x74.Func 0) (!(ltI x74.Func ((a0.Funcs.length : Nat) : Int)))) (some (.inr (11, ({ fn := (-1), inst := (-1) } : ProgramPlace)))) (Option.bind (program_value x74.Arg) (fun y78 => cond (!y78) (some (.inr (2, ({ fn := (-1), inst := (-1) } : ProgramPlace)))) (program_checkThreads_L1 a0 q70 (k54 + 1))))
def program_checkThreads (a0 : Program) : Option (Int × ProgramPlace) :=
 cond (orB (ltI ((a0.Threads.length : Nat) : Int) 1) (ltI 8 ((a0.Threads.length : Nat) : Int))) (some (4, ({ fn := (-1), inst := (-1) } : ProgramPlace))) (Option.bind (α := Unit ⊕ (Int × ProgramPlace)) (Option.bind (program_checkThreads_L1 a0 a0.Threads 0) (fun o => match o with | .inl _ => some (.inl ()) | .inr r81 => some (.inr r81))) (fun o => match o with | .inl _ => some (0, ({ fn := (-1), inst := (-1) } : ProgramPlace)) | .inr r82 => some r82))
set_option maxHeartbeats 2000000 in
theorem at_program_checkThreads {a0 : Program} {r : Int × ProgramPlace} (hs : program_checkThreads a0 = some r) : At Tryd.prog 73 [.agg (eA a0)] (.tup [iV .i64 r.1, .agg (eA r.2)]) := by
 refine at_bound (by kernel_rfl) fun hb => ?_
 have hb1 : LenOk (.sl a0.Vars.length (encL a0.Vars)) := lkc hb
 have hb2 : LenOk (.sl a0.Mutexes.length (encL a0.Mutexes)) := lkc hb
 have hb3 : LenOk (.sl a0.Conds.length (encL a0.Conds)) := lkc hb
 have hb4 : LenOk (.sl a0.Funcs.length (encL a0.Funcs)) := lkc hb
 have hb5 : LenOk (.sl a0.Threads.length (encL a0.Threads)) := lkc hb
 refine at_code mixed Tryd.func73 (by kernel_rfl) rfl (by kernel_rfl) rfl fun Q hQ => ?_
 rw [program_checkThreads] at hs
 refine goG f0 f0 ?_
 revert hs; refine cS f0 ?_ ?_ <;> intro h1 hs
 ·refine goE f0 f0 ?_
  obtain rfl := sj hs
  exact hQ _ _ (rg f0 (Gh.refl _))
 ·refine goG2 f0 f0 ?_
  revert hs; refine bK fun o41 e40 hs => ?_
  refine awp_cutK (fun (v : Unit) (σ : St) => some (.inl v) = some o41 /\ σ.env 3 = .cell (.ref (.o 1 2 0) 0) /\ σ.env 4 = .cell (.ref (.o 2 1 0) 0) /\ σ.hp (.o 1 2 0) = some (.cells [nC 0, nC 0]) /\ σ.hp (.o 2 1 0) = some (.cells [nC (-1), nC (-1)]) /\ 4 <= σ.gen) (by rfl) (fun Q hK42 hX43 => ?_) (fun v σ3 hp => ?_)
  ·refine goG f0 f0 ?_
   revert e40; refine bK fun o65 e64 e40 => ?_
   refine awp_loopW (fun (v : (List Start) × Nat) (σ : St) => program_checkThreads_L1 a0 v.1 v.2 = some o65 /\ v.1 = a0.Threads.drop v.2 /\ σ.env 1 = .cell (.ref (.o 1 0 0) 0) /\ σ.env 3 = .cell (.ref (.o 1 2 0) 0) /\ σ.env 4 = .cell (.ref (.o 2 1 0) 0) /\ σ.env 20 = .cell (sC a0.Threads) /\ σ.env 21 = iV .i64 ((a0.Threads.length : Nat) : Int) /\ σ.env 22 = iV .i64 ((v.2 : Nat) : Int) /\ σ.hp (.o 1 0 0) = some (.cells (eA a0)) /\ σ.hp (.o 1 2 0) = some (.cells [nC 0, nC 0]) /\ σ.hp (.o 2 1 0) = some (.cells [nC (-1), nC (-1)]) /\ 4 <= σ.gen) (fun v => v.1.length) _ (Gh.refl _) (a0.Threads, 0) ⟨e64, by simp, pv f0, pv f0, pv f0, pv f0, pv f0, pv f0, pv f0, pv f0, pv f0, pg⟩ fun v σ6 hp L66 hL67 => ?_
   obtain ⟨q69, k54⟩ := v
   dsimp only at hp hL67
   obtain ⟨e64, hd68, h5_1, h5_3, h5_4, h5_20, h5_21, h5_22, g5_0, g5_1, g5_2, n5_g⟩ := hp
   have n5_0 : ¬ (σ6.gen = 0) := by omega
   have n5_1 : ¬ (σ6.gen = 1) := by omega
   rcases q69 with _ | ⟨x74, q70⟩
   ·have hlt71 := drop_end hd68
    rw [program_checkThreads_L1] at e64; try dsimp only at e64
    have F1 := an h5_1 (an h5_3 (an h5_4 (an h5_20 (an h5_21 (an h5_22 (an g5_0 (an g5_1 (an g5_2 (an n5_0 n5_1)))))))))
    refine goR F1 ?_
    refine condK_f (by simp [ltI]; omega) ?_
    obtain rfl := sj e64
    try dsimp only at e40
    exact hK42 () _ _ (Gh.refl _) ⟨e40, pv F1, pv F1, pv F1, pv F1, pg⟩
   ·obtain ⟨hx73, hlt71, hd75⟩ := drop_next hd68
    have ew72 := wrap_succ hlt71 (hb5).len
    rw [program_checkThreads_L1] at e64; try dsimp only at e64
    have F2 := an h5_1 (an h5_3 (an h5_4 (an h5_20 (an h5_21 (an h5_22 (an g5_0 (an g5_1 (an g5_2 (an n5_0 (an n5_1 (an hlt71 ew72)))))))))))
    refine goR F2 ?_
    refine condK_t (by simp [ltI]; omega) ?_
    have f76 : partCV Tryd.prog 74 (encL a0.Threads) (k54 * 2) = some (.agg (eA x74)) := partCV_enc hx73 (f := 0) (by simp)
    have F3 := an F2 f76
    refine goG F3 F3 ?_
    revert e64; refine cS F3 ?_ ?_ <;> intro h77 e64
    ·refine goE F3 F3 ?_
     obtain rfl := sj e64
     try dsimp only at e40
     obtain rfl := sj e40
     try dsimp only at hs
     refine hX43 _ _ (by simp) ?_
     refine goE F3 F3 ?_
     obtain rfl := sj hs
     exact hQ _ _ (rg F3 (Gh.refl _))
    ·refine goG F3 F3 ?_
     revert e64; refine bK fun y78 hx79 e64 => ?_
     refine cP F3 (at_program_value hx79) ?_
     refine goG F3 F3 ?_
     revert e64; refine cS F3 ?_ ?_ <;> intro h80 e64
     ·refine goE F3 F3 ?_
      obtain rfl := sj e64
      try dsimp only at e40
      obtain rfl := sj e40
      try dsimp only at hs
      refine hX43 _ _ (by simp) ?_
      refine goE F3 F3 ?_
      obtain rfl := sj hs
      exact hQ _ _ (rg F3 (Gh.refl _))
     ·refine goG F3 F3 ?_
      exact hL67 (q70, (k54 + 1)) _ _ (Gh.refl _) ⟨e64, hd75, pv F3, pv F3, pv F3, pv F3, pv F3, pv F3, pv F3, pv F3, pv F3, pg⟩ (by simp)
  ·obtain ⟨e40, h4_3, h4_4, g4_0, g4_1, n4_g⟩ := hp
   obtain rfl := sj e40
   try dsimp only at hs
   have n4_0 : ¬ (σ3.gen = 0) := by omega
   have n4_1 : ¬ (σ3.gen = 1) := by omega
   have F4 := an h4_3 (an h4_4 (an g4_0 (an g4_1 (an n4_0 n4_1))))
   refine goE F4 F4 ?_
   obtain rfl := sj hs
   exact hQ _ _ (rg F4 (Gh.refl _))
end Go.Dc
end
section
set_option linter.all false
namespace Go.Dc
open Go Go.Hw Go.Proofs
set_option maxRecDepth 100000
def program_Check (fuelN : Nat) (a0 : Program) : Option (Int × Int × Int) :=
 Option.bind (program_checkNames a0) (fun y1 => Option.bind (α := Int × Int × Int) (cond (eqI y1.1 0) (Option.bind (program_checkObjects a0) (fun y15 => some ((y15.1, y15.2.fn, y15.2.inst)))) (some ((y1.1, y1.2.fn, y1.2.inst)))) (fun o => match o with | (i6, i7, i9) => Option.bind (α := Int × Int × Int) (cond (eqI i6 0) (Option.bind (program_checkCode fuelN a0) (fun y28 => some ((y28.1, y28.2.fn, y28.2.inst)))) (some ((i6, i7, i9)))) (fun o => match o with | (i20, i21, i22) => cond (eqI i20 0) (Option.bind (program_checkThreads a0) (fun y31 => cond (!(eqI y31.1 0)) (some (y31.1, y31.2.fn, y31.2.inst)) (some (0, (-1), (-1))))) (cond (!(eqI i20 0)) (some (i20, i21, i22)) (some (0, (-1), (-1)))))))
set_option maxHeartbeats 2000000 in
theorem at_program_Check {fuelN : Nat} {a0 : Program} {r : Int × Int × Int} (hs : program_Check fuelN a0 = some r) : At Tryd.prog 47 [.agg (eA a0)] (.tup [iV .i64 r.1, iV .i64 r.2.1, iV .i64 r.2.2]) := by
 refine at_bound (by kernel_rfl) fun hb => ?_
 have hb1 : LenOk (.sl a0.Vars.length (encL a0.Vars)) := lkc hb
 have hb2 : LenOk (.sl a0.Mutexes.length (encL a0.Mutexes)) := lkc hb
 have hb3 : LenOk (.sl a0.Conds.length (encL a0.Conds)) := lkc hb
 have hb4 : LenOk (.sl a0.Funcs.length (encL a0.Funcs)) := lkc hb
 have hb5 : LenOk (.sl a0.Threads.length (encL a0.Threads)) := lkc hb
 refine at_code mixed Tryd.func47 (by kernel_rfl) rfl (by kernel_rfl) rfl fun Q hQ => ?_
 rw [program_Check] at hs
 refine goR f0 ?_
 revert hs; refine bK fun y1 hx2 hs => ?_
 refine cP f0 (at_program_checkNames hx2) ?_
 refine goR2 f0 ?_
 revert hs; refine bK fun o11 e10 hs => ?_
 refine awp_cutK (fun (v : Int × Int × Int) (σ : St) => some (v) = some o11 /\ σ.env 1 = .cell (.ref (.o 1 0 0) 0) /\ σ.env 5 = iV .i64 v.1 /\ σ.env 6 = .cell (.ref (.o 2 5 0) 0) /\ σ.hp (.o 1 0 0) = some (.cells (eA a0)) /\ σ.hp (.o 2 5 0) = some (.cells [nC v.2.1, nC v.2.2]) /\ 3 <= σ.gen) (by rfl) (fun Q hK12 hX13 => ?_) (fun v σ1 hp => ?_)
 ·refine goR f0 ?_
  revert e10; refine cS f0 ?_ ?_ <;> intro h14 e10
  ·refine goR f0 ?_
   revert e10; refine bK fun y15 hx16 e10 => ?_
   refine cP f0 (at_program_checkObjects hx16) ?_
   refine goR f0 ?_
   exact hK12 (y15.1, y15.2.fn, y15.2.inst) _ _ (Gh.refl _) ⟨e10, pv f0, pv f0, pv f0, pv f0, pv f0, pg⟩
  ·refine goR f0 ?_
   exact hK12 (y1.1, y1.2.fn, y1.2.inst) _ _ (Gh.refl _) ⟨e10, pv f0, pv f0, pv f0, pv f0, pv f0, pg⟩
 ·obtain ⟨i6, i7, i9⟩ := v
  dsimp only at hp
  obtain ⟨e10, h2_1, h2_5, h2_6, g2_0, g2_1, n2_g⟩ := hp
  obtain rfl := sj e10
  try dsimp only at hs
  have n2_0 : ¬ (σ1.gen = 0) := by omega
  have n2_1 : ¬ (σ1.gen = 1) := by omega
  have F1 := an h2_1 (an h2_5 (an h2_6 (an g2_0 (an g2_1 (an n2_0 n2_1)))))
  refine goR2 F1 ?_
  revert hs; refine bK fun o24 e23 hs => ?_
  refine awp_cutK (fun (v : Int × Int × Int) (σ : St) => some (v) = some o24 /\ σ.env 1 = .cell (.ref (.o 1 0 0) 0) /\ σ.env 5 = iV .i64 v.1 /\ σ.env 6 = .cell (.ref (.o 2 5 0) 0) /\ σ.hp (.o 1 0 0) = some (.cells (eA a0)) /\ σ.hp (.o 2 5 0) = some (.cells [nC v.2.1, nC v.2.2]) /\ (σ1.gen + 1) <= σ.gen) (by rfl) (fun Q hK25 hX26 => ?_) (fun v σ3 hp => ?_)
  ·refine goR F1 ?_
   revert e23; refine cS F1 ?_ ?_ <;> intro h27 e23
   ·refine goR F1 ?_
    revert e23; refine bK fun y28 hx29 e23 => ?_
    refine cP F1 (at_program_checkCode hx29) ?_
    refine goR F1 ?_
    exact hK25 (y28.1, y28.2.fn, y28.2.inst) _ _ (Gh.refl _) ⟨e23, pv F1, pv F1, pv F1, pv F1, pv F1, pg⟩
   ·refine goR F1 ?_
    exact hK25 (i6, i7, i9) _ _ (Gh.refl _) ⟨e23, pv F1, pv F1, pv F1, pv F1, pv F1, pg⟩
  ·obtain ⟨i20, i21, i22⟩ := v
   dsimp only at hp
   obtain ⟨e23, h4_1, h4_5, h4_6, g4_0, g4_1, n4_g⟩ := hp
   obtain rfl := sj e23
   try dsimp only at hs
   have n4_0 : ¬ (σ3.gen = 0) := by omega
   have n4_1 : ¬ (σ3.gen = 1) := by omega
   have F2 := an h4_1 (an h4_5 (an h4_6 (an g4_0 (an g4_1 (an n4_0 n4_1)))))
   refine goR F2 ?_
   revert hs; refine cS F2 ?_ ?_ <;> intro h30 hs
   ·refine goR F2 ?_
    revert hs; refine bK fun y31 hx32 hs => ?_
    refine cP F2 (at_program_checkThreads hx32) ?_
    refine goR F2 ?_
    revert hs; refine cS F2 ?_ ?_ <;> intro h33 hs
    ·refine goD F2 ?_
     obtain rfl := sj hs
     exact hQ _ _ (rg F2 (Gh.refl _))
    ·refine goR F2 ?_
     obtain rfl := sj hs
     exact hQ _ _ (rg F2 (Gh.refl _))
   ·refine goR F2 ?_
    revert hs; refine cS F2 ?_ ?_ <;> intro h34 hs
    ·refine goD F2 ?_
     obtain rfl := sj hs
     exact hQ _ _ (rg F2 (Gh.refl _))
    ·refine goR F2 ?_
     obtain rfl := sj hs
     exact hQ _ _ (rg F2 (Gh.refl _))
end Go.Dc
end
section
set_option linter.all false
namespace Go.Dc
open Go Go.Hw Go.Proofs
set_option maxRecDepth 100000
def r08_value (a0 : Int) : Option Bool :=
 some (andB (!(ltI a0 (-2147483648))) (!(ltI 2147483647 a0)))
end Go.Dc
end
section
set_option linter.all false
namespace Go.Dc
open Go Go.Hw Go.Proofs
set_option maxRecDepth 100000
def r08_exists (a0 : Program) (a1 : Inst) : Option Bool :=
 Option.bind (α := Nat ⊕ Bool) (Option.bind (α := Bool) (cond (eqI a1.Op 8) (some (eqI a1.Op 8)) (cond (eqI a1.Op 9) (some (eqI a1.Op 9)) (cond (eqI a1.Op 10) (some (eqI a1.Op 10)) (cond (eqI a1.Op 11) (some (eqI a1.Op 11)) (cond (eqI a1.Op 12) (some (eqI a1.Op 12)) (some (eqI a1.Op 14))))))) (fun b42 => cond b42 (some (.inl a0.Vars.length)) (Option.bind (α := Bool) (cond (eqI a1.Op 15) (some (eqI a1.Op 15)) (cond (eqI a1.Op 16) (some (eqI a1.Op 16)) (some (eqI a1.Op 17)))) (fun b55 => cond b55 (some (.inl a0.Mutexes.length)) (cond (eqI a1.Op 18) (cond (orB (ltI a1.N 0) (!(ltI a1.N ((a0.Mutexes.length : Nat) : Int)))) (some (.inr false)) (some (.inl a0.Conds.length))) (cond (eqI a1.Op 19) (some (.inl a0.Conds.length)) (cond (eqI a1.Op 20) (some (.inl a0.Conds.length)) (cond (eqI a1.Op 21) (some (.inl a0.Funcs.length)) (some (.inr true)))))))))) (fun o => match o with | .inl k32 => some (andB (!(ltI a1.Obj 0)) (ltI a1.Obj ((k32 : Nat) : Int))) | .inr r68 => some r68)
end Go.Dc
end
section
set_option linter.all false
namespace Go.Dc
open Go Go.Hw Go.Proofs
set_option maxRecDepth 100000
def r08_code_L1 (a0 : Program) (a1 : Func) : List Inst -> Nat -> Option (Unit ⊕ (Int × Int))
 | [], k66 => some (.inl ())
 | x89 :: q85, k66 => Option.bind (r07_Check x89) (fun y92 => cond (!(eqI y92 0)) (some (.inr (y92, ((k66 : Nat) : Int)))) (Option.bind (r08_exists a0 x89) (fun y95 => cond (!y95) (some (.inr (11, ((k66 : Nat) : Int)))) (cond (andB (orB (eqI x89.Op 4) (eqI x89.Op 5)) (orB (ltI x89.N 0) (ltI ((a1.Code.length : Nat) : Int) x89.N))) (some (.inr (12, ((k66 : Nat) : Int)))) (r08_code_L1 a0 a1 q85 (k66 + 1))))))
def r08_code (a0 : Program) (a1 : Func) : Option (Int × Int) :=
 cond (ltI 64 ((a1.Code.length : Nat) : Int)) (some (4, (-1))) (Option.bind (α := Unit ⊕ (Int × Int)) (Option.bind (r08_code_L1 a0 a1 a1.Code 0) (fun o => match o with | .inl _ => some (.inl ()) | .inr r99 => some (.inr r99))) (fun o => match o with | .inl _ => some (0, (-1)) | .inr r100 => some r100))
end Go.Dc
end
section
set_option linter.all false
namespace Go.Dc
open Go Go.Hw Go.Proofs
set_option maxRecDepth 100000
def r08_threads_L1 (a0 : Program) : List Start -> Nat -> Option (Unit ⊕ Int)
 | [], k68 => some (.inl ())
 | x92 :: q88, k68 => cond (orB (ltI x92.Func 0) (!(ltI x92.Func ((a0.Funcs.length : Nat) : Int)))) (some (.inr 11)) (Option.bind (r08_value x92.Arg) (fun y98 => cond (!y98) (some (.inr 2)) (r08_threads_L1 a0 q88 (k68 + 1))))
def r08_threads (a0 : Program) : Option Int :=
 cond (orB (ltI ((a0.Threads.length : Nat) : Int) 1) (ltI 8 ((a0.Threads.length : Nat) : Int))) (some 4) (Option.bind (α := Unit ⊕ Int) (Option.bind (r08_threads_L1 a0 a0.Threads 0) (fun o => match o with | .inl _ => some (.inl ()) | .inr r101 => some (.inr r101))) (fun o => match o with | .inl _ => some 0 | .inr r102 => some r102))
end Go.Dc
end
section
set_option linter.all false
namespace Go.Dc
open Go Go.Hw Go.Proofs
set_option maxRecDepth 100000
def r08_Check_L1 : List Var -> Nat -> Option (Unit ⊕ (Int × Int × Int))
 | [], k64 => some (.inl ())
 | x83 :: q79, k64 => Option.bind (r08_value x83.Init) (fun y86 => cond (!y86) (some (.inr (2, (-1), (-1)))) (r08_Check_L1 q79 (k64 + 1)))
def r08_Check_L2 (a0 : Program) : List Func -> Nat -> Option (Unit ⊕ (Int × Int × Int))
 | [], k156 => some (.inl ())
 | x180 :: q176, k156 => Option.bind (r08_code a0 x180) (fun y186 => cond (!(eqI y186.1 0)) (some (.inr (y186.1, ((k156 : Nat) : Int), y186.2))) (r08_Check_L2 a0 q176 (k156 + 1)))
def r08_Check (fuelN : Nat) (a0 : Program) : Option (Int × Int × Int) :=
 Option.bind (r08_lists a0) (fun y1 => Option.bind (r08_names fuelN y1.1) (fun y3 => cond (!(eqI y3.2 0)) (some (y3.2, (-1), (-1))) (Option.bind (r08_names fuelN a0.Mutexes) (fun y6 => cond (!(eqI y6.2 0)) (some (y6.2, (-1), (-1))) (Option.bind (r08_names fuelN a0.Conds) (fun y9 => cond (!(eqI y9.2 0)) (some (y9.2, (-1), (-1))) (Option.bind (r08_names fuelN y1.2) (fun y12 => cond (!(eqI y12.2 0)) (some (y12.2, y12.1, (-1))) (cond (orB (orB (orB (ltI 8 ((a0.Vars.length : Nat) : Int)) (ltI 4 ((a0.Mutexes.length : Nat) : Int))) (ltI 4 ((a0.Conds.length : Nat) : Int))) (ltI 8 ((a0.Funcs.length : Nat) : Int))) (some (4, (-1), (-1))) (Option.bind (α := Unit ⊕ (Int × Int × Int)) (Option.bind (r08_Check_L1 a0.Vars 0) (fun o => match o with | .inl _ => some (.inl ()) | .inr r89 => some (.inr r89))) (fun o => match o with | .inl _ => Option.bind (α := Unit ⊕ (Int × Int × Int)) (Option.bind (r08_Check_L2 a0 a0.Funcs 0) (fun o => match o with | .inl _ => some (.inl ()) | .inr r189 => some (.inr r189))) (fun o => match o with | .inl _ => Option.bind (r08_threads a0) (fun y190 => some (y190, (-1), (-1))) | .inr r192 => some r192) | .inr r193 => some r193)))))))))))
end Go.Dc
end
section
set_option linter.all false
namespace Go.Dc.Pl
open Go Go.Hw Go.Dc
set_option maxRecDepth 100000
theorem obj_ex (p : Program) (x : Inst) : ∃ y e, program_objects p x.Op = some y /\ r08_exists p x = some e /\ (!e) = orB (andB (!(ltI y 0)) (orB (ltI x.Obj 0) (!(ltI x.Obj y)))) (andB (eqI x.Op 18) (orB (ltI x.N 0) (!(ltI x.N ((p.Mutexes.length : Nat) : Int))))) := by
 simp only [program_objects, r08_exists]
 generalize x.Op = op
 have hn : ∀ n : Nat, (!andB (!ltI x.Obj 0) (ltI x.Obj (n : Int))) = andB (!ltI (n : Int) 0) (orB (ltI x.Obj 0) (!ltI x.Obj (n : Int))) := fun n => by simp [andB_d, orB_d, ltI_d]
 have hz : ∀ n : Nat, ltI (n : Int) 0 = false := fun n => by simp [ltI_d]
 by_cases h8 : op = 8; · subst h8; exact ⟨_, _, rfl, rfl, by simp [hn, hz, andB_d, orB_d, eqI_d]⟩
 by_cases h9 : op = 9; · subst h9; exact ⟨_, _, rfl, rfl, by simp [hn, hz, andB_d, orB_d, eqI_d]⟩
 by_cases h10 : op = 10; · subst h10; exact ⟨_, _, rfl, rfl, by simp [hn, hz, andB_d, orB_d, eqI_d]⟩
 by_cases h11 : op = 11; · subst h11; exact ⟨_, _, rfl, rfl, by simp [hn, hz, andB_d, orB_d, eqI_d]⟩
 by_cases h12 : op = 12; · subst h12; exact ⟨_, _, rfl, rfl, by simp [hn, hz, andB_d, orB_d, eqI_d]⟩
 by_cases h14 : op = 14; · subst h14; exact ⟨_, _, rfl, rfl, by simp [hn, hz, andB_d, orB_d, eqI_d]⟩
 by_cases h15 : op = 15; · subst h15; exact ⟨_, _, rfl, rfl, by simp [hn, hz, andB_d, orB_d, eqI_d]⟩
 by_cases h16 : op = 16; · subst h16; exact ⟨_, _, rfl, rfl, by simp [hn, hz, andB_d, orB_d, eqI_d]⟩
 by_cases h17 : op = 17; · subst h17; exact ⟨_, _, rfl, rfl, by simp [hn, hz, andB_d, orB_d, eqI_d]⟩
 by_cases h18 : op = 18
 ·subst h18
  cases h : orB (ltI x.N 0) (!(ltI x.N ((p.Mutexes.length : Nat) : Int)))
  ·exact ⟨_, _, rfl, rfl, by simp [hn, hz, andB_d, orB_d, eqI_d]⟩
  ·exact ⟨_, _, rfl, rfl, by simp [hn, hz, andB_d, orB_d, eqI_d]⟩
 by_cases h19 : op = 19; · subst h19; exact ⟨_, _, rfl, rfl, by simp [hn, hz, andB_d, orB_d, eqI_d]⟩
 by_cases h20 : op = 20; · subst h20; exact ⟨_, _, rfl, rfl, by simp [hn, hz, andB_d, orB_d, eqI_d]⟩
 by_cases h21 : op = 21; · subst h21; exact ⟨_, _, rfl, rfl, by simp [hn, hz, andB_d, orB_d, eqI_d]⟩
 simp only [eqI_d, h8, h9, h10, h11, h12, h14, h15, h16, h17, h18, h19, h20, h21, decide_false, cond_false, Option.bind_some]
 exact ⟨_, _, rfl, rfl, by simp [andB_d, orB_d, ltI_d]⟩
def exs (p : Program) (x : Inst) : Bool := (r08_exists p x).getD false
def ci (p : Program) (x : Inst) (n : Nat) : Int := cond (!(eqI (icode x) 0)) (icode x) (cond (!(exs p x)) 11 (cond (andB (orB (eqI x.Op 4) (eqI x.Op 5)) (orB (ltI x.N 0) (ltI (n : Int) x.N))) 12 0))
theorem own_inst (fuel : Nat) (p : Program) (x : Inst) (n : Nat) : program_checkInst (fuel + 8) p x (n : Int) = some (ci p x n) := by
 obtain ⟨y, e, h1, h2, h3⟩ := obj_ex p x
 rw [program_checkInst, (check_eq fuel x).1, Option.bind_some, h1, Option.bind_some, ci, exs, h2]
 cases !(eqI (icode x) 0)
 ·simp only [cond_false, Option.getD_some, h3]
  cases andB (!(ltI y 0)) (orB (ltI x.Obj 0) (!(ltI x.Obj y)))
  ·cases andB (eqI x.Op 18) (orB (ltI x.N 0) (!(ltI x.N ((p.Mutexes.length : Nat) : Int))))
   ·cases andB (orB (eqI x.Op 4) (eqI x.Op 5)) (orB (ltI x.N 0) (ltI (n : Int) x.N)) <;> rfl
   ·rfl
  ·rfl
 ·rfl
/-- The first instruction of a function that is wrong. -/
def cI (p : Program) (n j : Nat) (x : Inst) : Option (Int × Int) := onlyIf (!(eqI (ci p x n) 0)) (ci p x n, (j : Int))
def cF (p : Program) (k : Nat) (f : Func) : Option (Int × Int × Int) := cond (ltI 64 ((f.Code.length : Nat) : Int)) (some (4, (k : Int), -1)) ((first (cI p f.Code.length) f.Code 0).map fun r => (r.1, (k : Int), r.2))
theorem cI_ne {p : Program} {n : Nat} : ∀ (l : List Inst) (k : Nat) {r : Int × Int}, first (cI p n) l k = some r -> eqI r.1 0 = false
 | [], _, _, h => by cases h
 | x :: q, k, r, h => by
  rw [first_cons, cI] at h
  cases hc : !(eqI (ci p x n) 0)
  ·rw [hc] at h; exact cI_ne q _ h
  ·rw [hc] at h; obtain rfl := Option.some.inj h; simpa using hc
theorem cF_ne {p : Program} {k : Nat} {f : Func} {r : Int × Int × Int} (h : cF p k f = some r) : eqI r.1 0 = false := by
 rw [cF] at h
 cases hb : ltI 64 ((f.Code.length : Nat) : Int)
 ·rw [hb, cond_false, Option.map_eq_some_iff] at h
  obtain ⟨y, hy, rfl⟩ := h
  exact cI_ne _ _ hy
 ·rw [hb] at h; obtain rfl := Option.some.inj h; rfl
theorem first_ne {α : Type} {f : Nat -> α -> Option (Int × Int × Int)} (hf : ∀ k x r, f k x = some r -> eqI r.1 0 = false) : ∀ (l : List α) (k : Nat) {r}, first f l k = some r -> eqI r.1 0 = false
 | [], _, _, h => by cases h
 | x :: q, k, r, h => by
  rw [first_cons] at h
  cases hc : f k x with
  | none => rw [hc] at h; exact first_ne hf q _ h
  | some y => rw [hc] at h; obtain rfl := Option.some.inj h; exact hf _ _ _ hc
end Go.Dc.Pl
end
section
set_option linter.all false
namespace Go.Dc.Pl
open Go Go.Hw Go.Dc
set_option maxRecDepth 100000
def bigF (k : Nat) (f : Func) : Option Int := onlyIf (ltI 64 ((f.Code.length : Nat) : Int)) (k : Int)
theorem big_ge : ∀ (l : List Func) (k : Nat) {r : Int}, first bigF l k = some r -> (k : Int) <= r
 | [], _, _, h => by cases h
 | x :: q, k, r, h => by
  rw [first_cons, bigF] at h
  cases hp : ltI 64 ((x.Code.length : Nat) : Int)
  ·rw [hp] at h; have := big_ge q _ h; omega
  ·rw [hp] at h; obtain rfl := Option.some.inj h; omega
theorem own_big (l : List Func) : slices_IndexFunc_api_Func_program_checkCode_1 l = some ((first bigF l 0).getD (-1)) := by
 have h := srch (L := slices_IndexFunc_api_Func_program_checkCode_1_L1) bigF (fun _ => rfl) l 0 fun j x hx q => by rw [slices_IndexFunc_api_Func_program_checkCode_1_L1]; exact step_only _ _ _
 rw [slices_IndexFunc_api_Func_program_checkCode_1, h]
 cases first bigF l 0 <;> rfl
theorem own_code1 {fuel : Nat} {p : Program} {y : Int} {k : Nat} {f : Func} (hf : p.Funcs[k]? = some f) (hy : eqI (k : Int) y = false) (rest : List (ProgramPlace × Inst)) : ∀ (q : List Inst) (j : Nat),
  program_checkCode_L1 (fuel + 8) p y (insC k j q ++ rest) = match first (cI p f.Code.length) q j with | some r => some (.inr (.inr (r.1, ({ fn := (k : Int), inst := r.2 } : ProgramPlace)))) | none => program_checkCode_L1 (fuel + 8) p y rest
 | [], j => rfl
 | x :: q, j => by
  rw [insC, List.cons_append, program_checkCode_L1, hy, cond_false, getI_nat, hf, Option.bind_some, own_inst, Option.bind_some, first_cons, cI]
  cases !(eqI (ci p x f.Code.length) 0)
  ·exact own_code1 hf hy rest q (j + 1)
  ·rfl
def finC (y : Int) (o : Unit ⊕ (Unit ⊕ (Int × ProgramPlace))) : Option (Int × ProgramPlace) := match o with
 | .inl _ => cond (!(ltI y 0)) (some (4, ({ fn := y, inst := -1 } : ProgramPlace))) (some (0, ({ fn := -1, inst := -1 } : ProgramPlace)))
 | .inr (.inl _) => cond (!(ltI y 0)) (some (4, ({ fn := y, inst := -1 } : ProgramPlace))) (some (0, ({ fn := -1, inst := -1 } : ProgramPlace)))
 | .inr (.inr r) => some r
def plc (r : Int × Int × Int) : Int × ProgramPlace := (r.1, { fn := r.2.1, inst := r.2.2 })
theorem own_code2 {fuel : Nat} {p : Program} {y : Int} : ∀ (l : List Func) (k : Nat), l = p.Funcs.drop k -> y = (first bigF l k).getD (-1) ->
  Option.bind (program_checkCode_L1 (fuel + 8) p y (insF k l)) (finC y) = some (plc ((first (cF p) l k).getD (0, -1, -1)))
 | [], k, hd, hy => by subst hy; rfl
 | f :: l, k, hd, hy => by
  obtain ⟨hf, hk, hr⟩ := drop_next hd
  rw [first_cons, cF]
  cases hb : ltI 64 ((f.Code.length : Nat) : Int)
  ·have hy2 : y = (first bigF l (k + 1)).getD (-1) := by rw [hy, first_cons, bigF, hb]; rfl
   have hne : eqI (k : Int) y = false := by
    rw [hy2, eqI_d]
    cases h : first bigF l (k + 1) with
    | none => simp
    | some r => have := big_ge _ _ h; simp; omega
   rw [insF, own_code1 hf hne, cond_false]
   cases h : first (cI p f.Code.length) f.Code 0 with
   | none => exact own_code2 l (k + 1) hr hy2
   | some r => rfl
  ·have hy2 : y = (k : Int) := by rw [hy, first_cons, bigF, hb]; rfl
   subst hy2
   obtain ⟨x, q, hx⟩ : ∃ x q, f.Code = x :: q := by
    cases hc : f.Code with
    | nil => rw [hc] at hb; cases hb
    | cons x q => exact ⟨x, q, rfl⟩
   rw [insF, hx, insC, List.cons_append, program_checkCode_L1, show eqI ((k : Nat) : Int) (k : Int) = true by simp [eqI], cond_true, Option.bind_some]
   simp only [finC]
   rw [show ltI (k : Int) 0 = false by simp [ltI_d]]; rfl
theorem own_code {fuel : Nat} {p : Program} (h1 : p.Funcs.length <= 20) (h2 : ∀ f ∈ p.Funcs, f.Code.length <= 100) : program_checkCode (fuel + 8) p = some (plc ((first (cF p) p.Funcs 0).getD (0, -1, -1))) := by
 have hg : (lenB p.Funcs.length && p.Funcs.all fun f => lenB f.Code.length) = true := by
  simp only [Bool.and_eq_true, List.all_eq_true, lenB_d, decide_eq_true_eq]; exact ⟨by omega, fun f hf => by have := h2 f hf; omega⟩
 rw [program_checkCode, own_big, Option.bind_some, program_instructions, Option.bind_some, it_instructions, hg, guardO_t, Option.bind_some, <- own_code2 (fuel := fuel) p.Funcs 0 rfl rfl]
 rfl
/-- Names of a program: the first that is wrong. -/
def ckN (p : Program) : Option (Int × Int) := match badName (p.Vars.map Var.Name) with
 | some r => some (r.1, -1)
 | none => match badName p.Mutexes with
  | some r => some (r.1, -1)
  | none => match badName p.Conds with
   | some r => some (r.1, -1)
   | none => badName (p.Funcs.map Func.Name)
theorem e00 : eqI 0 0 = true := rfl
theorem badName_ne {l : List ByteArray} {r : Int × Int} (h : badName l = some r) : eqI r.1 0 = false := by
 obtain ⟨j, x, _, h⟩ := first_some h
 rw [nmF] at h
 split at h
 ·obtain rfl := Option.some.inj h; rfl
 ·cases hc : (List.take (0 + j) l).any (eqS x)
  ·rw [hc] at h; cases h
  ·rw [hc] at h; obtain rfl := Option.some.inj h; rfl
theorem own_varNames {p : Program} (h : p.Vars.length <= 20) : program_varNames p = some (p.Vars.map Var.Name) := by
 rw [program_varNames, appM (L := program_varNames_L1) (b := 16) (m := 20) Var.Name (by decide) (fun _ _ => rfl) (fun x q a k => by rw [program_varNames_L1]; rfl) p.Vars [] 0 (by simpa using h)]; rfl
theorem own_funcNames {p : Program} (h : p.Funcs.length <= 20) : program_funcNames p = some (p.Funcs.map Func.Name) := by
 rw [program_funcNames, appM (L := program_funcNames_L1) (b := 16) (m := 20) Func.Name (by decide) (fun _ _ => rfl) (fun x q a k => by rw [program_funcNames_L1]; rfl) p.Funcs [] 0 (by simpa using h)]; rfl
theorem own_ckNames {p : Program} (h : p.Vars.length <= 20) (h2 : p.Funcs.length <= 20) : program_checkNames p = some (match ckN p with | some r => (r.1, { fn := r.2, inst := -1 }) | none => (0, { fn := -1, inst := -1 })) := by
 rw [program_checkNames, own_varNames h, Option.bind_some, Option.bind_some, show lenB [p.Vars.map Var.Name, p.Mutexes, p.Conds].length = true from rfl, guardO_t]
 simp only [program_checkNames_L1, own_names, Option.bind_some, ckN, own_funcNames h2]
 cases hv : badName (p.Vars.map Var.Name) with
 | some r => have := badName_ne hv; simp [this]
 | none =>
  cases hm : badName p.Mutexes with
  | some r => have := badName_ne hm; simp [this, e00]
  | none =>
   cases hc : badName p.Conds with
   | some r => have := badName_ne hc; simp [this, e00]
   | none => cases hf : badName (p.Funcs.map Func.Name) <;> simp [e00]
def limP (p : Program) : Bool := orB (orB (orB (ltI 8 ((p.Vars.length : Nat) : Int)) (ltI 4 ((p.Mutexes.length : Nat) : Int))) (ltI 4 ((p.Conds.length : Nat) : Int))) (ltI 8 ((p.Funcs.length : Nat) : Int))
def badV (n : Int) : Bool := !(andB (!(ltI n (-2147483648))) (!(ltI 2147483647 n)))
def ckO (p : Program) : Int := cond (limP p) 4 (cond (p.Vars.any fun v => badV v.Init) 2 0)
theorem own_objs (p : Program) : program_checkObjects p = some (ckO p, { fn := -1, inst := -1 }) := by
 have h := srch (L := program_checkObjects_L1) (fun _ (v : Var) => onlyIf (badV v.Init) ((2 : Int), ({ fn := -1, inst := -1 } : ProgramPlace))) (fun _ => rfl) p.Vars 0 fun j x hx q => by
  rw [program_checkObjects_L1, program_value, Option.bind_some]; exact step_only _ _ _
 rw [first_onlyC] at h
 rw [program_checkObjects, h, ckO, limP]
 cases orB (orB (orB (ltI 8 ((p.Vars.length : Nat) : Int)) (ltI 4 ((p.Mutexes.length : Nat) : Int))) (ltI 4 ((p.Conds.length : Nat) : Int))) (ltI 8 ((p.Funcs.length : Nat) : Int))
 ·cases p.Vars.any fun v => badV v.Init <;> rfl
 ·rfl
def thF (p : Program) (x : Start) : Option Int := cond (orB (ltI x.Func 0) (!(ltI x.Func ((p.Funcs.length : Nat) : Int)))) (some 11) (onlyIf (badV x.Arg) 2)
def ckT (p : Program) : Int := cond (orB (ltI ((p.Threads.length : Nat) : Int) 1) (ltI 8 ((p.Threads.length : Nat) : Int))) 4 ((first (fun _ => thF p) p.Threads 0).getD 0)
theorem own_threads (p : Program) : program_checkThreads p = some (ckT p, { fn := -1, inst := -1 }) := by
 have h := srch (L := program_checkThreads_L1 p) (fun _ x => (thF p x).map fun r => (r, ({ fn := -1, inst := -1 } : ProgramPlace))) (fun _ => rfl) p.Threads 0 fun j x hx q => by
  rw [program_checkThreads_L1, program_value, Option.bind_some, thF]
  cases orB (ltI x.Func 0) (!(ltI x.Func ((p.Funcs.length : Nat) : Int)))
  ·show cond (badV x.Arg) _ _ = _
   cases badV x.Arg <;> rfl
  ·rfl
 rw [first_map (h := fun _ => thF p) (g := fun r => (r, ({ fn := -1, inst := -1 } : ProgramPlace))) _ _ (fun _ _ => rfl)] at h
 rw [program_checkThreads, h, ckT]
 cases orB (ltI ((p.Threads.length : Nat) : Int) 1) (ltI 8 ((p.Threads.length : Nat) : Int))
 ·cases first (fun _ => thF p) p.Threads 0 <;> rfl
 ·rfl
/-- What both checks answer. -/
def chk (p : Program) : Int × Int × Int := match ckN p with
 | some r => (r.1, r.2, -1)
 | none => cond (!(eqI (ckO p) 0)) (ckO p, -1, -1) (match first (cF p) p.Funcs 0 with | some r => r | none => (ckT p, -1, -1))
theorem own_check {fuel : Nat} {p : Program} (h : small p = true) : program_Check (fuel + 8) p = some (chk p) := by
 obtain ⟨s1, s2, s3, s4, s5, s6⟩ := small_t h
 rw [program_Check, own_ckNames s1 s4, Option.bind_some, own_objs, own_code s4 s6, own_threads, chk]
 cases hn : ckN p with
 | some r =>
  have : eqI r.1 0 = false := by
   rw [ckN] at hn
   split at hn
   ·rename_i hb; obtain rfl := Option.some.inj hn; have := badName_ne hb; exact this
   ·split at hn
    ·rename_i hb; obtain rfl := Option.some.inj hn; have := badName_ne hb; exact this
    ·split at hn
     ·rename_i hb; obtain rfl := Option.some.inj hn; have := badName_ne hb; exact this
     ·exact badName_ne hn
  simp [this]
 | none =>
  simp only [show eqI 0 0 = true from rfl, cond_true, Option.bind_some]
  cases ho : eqI (ckO p) 0
  ·simp [ho]
  ·cases hf : first (cF p) p.Funcs 0 with
   | some r => have := first_ne (fun k x r h => cF_ne h) _ _ hf; simp [plc, this]
   | none =>
    simp only [Option.getD_none, plc, show eqI 0 0 = true from rfl, cond_true, Option.bind_some, Bool.not_true, cond_false]
    cases ht : eqI (ckT p) 0
    ·rfl
    ·have : ckT p = 0 := by simpa [eqI] using ht
     simp [this]
end Go.Dc.Pl
end
section
set_option linter.all false
namespace Go.Dc
open Go Go.Hw Go.Proofs
set_option maxRecDepth 100000
def frame_join_L1 : List (List UInt8) -> (List UInt8) -> Nat -> Option (List UInt8)
 | [], l53, k54 => some (l53)
 | x74 :: q70, l53, k54 => guardO (limB 1 (l53.length + x74.length)) (Option.bind (some (l53 ++ x74)) (fun l78 => frame_join_L1 q70 l78 (k54 + 1)))
def frame_join (a0 : List (List UInt8)) : Option (List UInt8) :=
 Option.bind (α := (List UInt8)) (Option.bind (frame_join_L1 a0 [] 0) (fun l63 => some (l63))) (fun l38 => some l38)
set_option maxHeartbeats 2000000 in
theorem at_frame_join {a0 : List (List UInt8)} {r : (List UInt8)} (hs : frame_join a0 = some r) : CAt Tryd.prog 44 [.cell (sC a0)] [] (.ret (.cell (.sl (.r 0) 0 1 r.length))) [(.r 0, .pure (encL r))] := by
 refine at_bound (by kernel_rfl) fun hb => ?_
 have hb1 : LenOk (.sl a0.length (encL a0)) := lkc hb
 refine at_code mixed Tryd.func44 (by kernel_rfl) rfl (by kernel_rfl) rfl fun Q hQ => ?_
 rw [frame_join] at hs
 refine goR2 f0 ?_
 revert hs; refine bK fun o40 e39 hs => ?_
 refine awp_cutK (fun (v : (List UInt8)) (σ : St) => some (v) = some o40 /\ σ.env 3 = .cell (.sl (.l 2) 0 1 v.length) /\ σ.hp (.l 2) = some (.pure (encL v)) /\ 3 <= σ.gen) (by rfl) (fun Q hK41 hX42 => ?_) (fun l38 σ3 hp => ?_)
 ·refine goR f0 ?_
  revert e39; refine bK fun o65 e64 e39 => ?_
  refine awp_loopW (fun (v : (List (List UInt8)) × (List UInt8) × Nat) (σ : St) => frame_join_L1 v.1 v.2.1 v.2.2 = some o65 /\ v.1 = a0.drop v.2.2 /\ σ.env 3 = .cell (.sl (.l 6) 0 1 v.2.1.length) /\ σ.env 6 = .cell (sC a0) /\ σ.env 7 = iV .i64 ((a0.length : Nat) : Int) /\ σ.env 8 = iV .i64 ((v.2.2 : Nat) : Int) /\ σ.hp (.l 6) = some (.pure (encL v.2.1)) /\ 3 <= σ.gen) (fun v => v.1.length) _ (Gh.void _ (.l 6) 3 1 rfl (by simp)) (a0, [], 0) ⟨e64, by simp, pv f0, pv f0, pv f0, pv f0, pv f0, pg⟩ fun v σ6 hp L66 hL67 => ?_
  obtain ⟨q69, l53, k54⟩ := v
  dsimp only at hp hL67
  obtain ⟨e64, hd68, h5_3, h5_6, h5_7, h5_8, g5_0, n5_g⟩ := hp
  rcases q69 with _ | ⟨x74, q70⟩
  ·have hlt71 := drop_end hd68
   rw [frame_join_L1] at e64; try dsimp only at e64
   have F1 := an h5_3 (an h5_6 (an h5_7 (an h5_8 g5_0)))
   refine goR F1 ?_
   refine condK_f (by simp [ltI]; omega) ?_
   obtain rfl := sj e64
   try dsimp only at e39
   exact hK41 l53 _ _ (Gh.ren _ (.l 6) (.l 2) (by simp) rfl rfl) ⟨e39, pv F1, pv F1, pg⟩
  ·obtain ⟨hx73, hlt71, hd75⟩ := drop_next hd68
   have ew72 := wrap_succ hlt71 (hb1).len
   rw [frame_join_L1] at e64; try dsimp only at e64
   have F2 := an h5_3 (an h5_6 (an h5_7 (an h5_8 (an g5_0 (an hlt71 ew72)))))
   refine goR F2 ?_
   refine condK_t (by simp [ltI]; omega) ?_
   have f76 : partCV Tryd.prog 43 (encL a0) (k54) = some (.cell (sC x74)) := partCV_enc1 hx73 (by simp)
   obtain ⟨g77, e64⟩ := guardO_some e64
   have g77 := limB_t g77
   obtain ⟨g77a, g77b⟩ := g77
   revert e64; refine lK fun l78 hx79 e64 => ?_
   have hx79n : l78.length = (l53.length + x74.length) := by rw [hx79]; simp
   have hx79e : encL l78 = encL l53 ++ encL x74 := by rw [hx79]; simp
   have F3 := an F2 (an f76 (an hx79n hx79e))
   refine goR F3 ?_
   exact hL67 (q70, l78, (k54 + 1)) _ _ (Gh.ren _ (.o (σ6.gen + 3) 2 0) (.l 6) (by simp) rfl rfl) ⟨e64, hd75, pv F3, pv F3, pv F3, pv F3, pv F3, pg⟩ (by simp)
 ·obtain ⟨e39, h4_3, g4_0, n4_g⟩ := hp
  obtain rfl := sj e39
  try dsimp only at hs
  have F4 := an h4_3 g4_0
  refine goR F4 ?_
  obtain rfl := sj hs
  refine hQ _ _ (ret2g _ (Gh.ren _ (.l 2) (.r 0) (by simp) rfl rfl) (by simp [St.frz, St.pur, F4]; rfl) (by first | rfl | (simp [St.frz, St.pur, F4]; done) | (rw [if_pos (by first | omega | (simp; omega))]; simp [St.frz, St.pur, F4]; first | omega | exact List.take_of_length_le (by simp; omega) | skip)) (pv F4))
end Go.Dc
end
section
set_option linter.all false
namespace Go.Dc
open Go Go.Hw Go.Proofs
set_option maxRecDepth 100000
def frame_uintBytes_L1 : Nat -> Int -> (List UInt8) -> Option (Int × (List UInt8))
 | 0, _, _ => none
 | q51 + 1, i34, l35 => cond (!(ltI i34 128)) (Option.bind (some ([u8 (IntKind.u8.wrap (IntKind.i64.wrap (Int.tmod i34 128 + 128)))])) (fun l56 => guardO (limB 1 (l35.length + l56.length)) (Option.bind (some (l35 ++ l56)) (fun l59 => frame_uintBytes_L1 q51 (IntKind.i64.wrap (Int.tdiv i34 128)) l59)))) (some ((i34, l35)))
def frame_uintBytes (fuelN : Nat) (a0 : Int) : Option (List UInt8) :=
 Option.bind (α := Int × (List UInt8)) (Option.bind (frame_uintBytes_L1 fuelN a0 []) (fun o => match o with | (i43, l44) => some ((i43, l44)))) (fun o => match o with | (i28, l29) => Option.bind (some ([u8 (IntKind.u8.wrap i28)])) (fun l61 => guardO (limB 1 (l29.length + l61.length)) (Option.bind (some (l29 ++ l61)) (fun l64 => some l64))))
set_option maxHeartbeats 2000000 in
theorem at_frame_uintBytes {fuelN : Nat} {a0 : Int} {r : (List UInt8)} (hs : frame_uintBytes fuelN a0 = some r) : At Tryd.prog 45 [iV .i64 a0] (.cell (sC r)) := by
 refine at_bound (by kernel_rfl) fun hb => ?_
 refine at_code mixed Tryd.func45 (by kernel_rfl) rfl (by kernel_rfl) rfl fun Q hQ => ?_
 rw [frame_uintBytes] at hs
 refine goR2 f0 ?_
 revert hs; refine bK fun o31 e30 hs => ?_
 refine awp_cutK (fun (v : Int × (List UInt8)) (σ : St) => some (v) = some o31 /\ σ.env 0 = iV .i64 v.1 /\ σ.env 3 = .cell (.sl (.l 1) 0 1 v.2.length) /\ σ.hp (.l 1) = some (.pure (encL v.2)) /\ 2 <= σ.gen) (by rfl) (fun Q hK32 hX33 => ?_) (fun v σ3 hp => ?_)
 ·refine goR f0 ?_
  revert e30; refine bK fun o46 e45 e30 => ?_
  refine awp_loopW (fun (v : Nat × Int × (List UInt8)) (σ : St) => frame_uintBytes_L1 v.1 v.2.1 v.2.2 = some o46 /\ σ.env 0 = iV .i64 v.2.1 /\ σ.env 3 = .cell (.sl (.l 4) 0 1 v.2.2.length) /\ σ.hp (.l 4) = some (.pure (encL v.2.2)) /\ 2 <= σ.gen) (fun v => v.1) _ (Gh.void _ (.l 4) 3 1 rfl (by simp)) (fuelN, a0, []) ⟨e45, pv f0, pv f0, pv f0, pg⟩ fun v σ6 hp L47 hL48 => ?_
  obtain ⟨q50, i34, l35⟩ := v
  dsimp only at hp hL48
  obtain ⟨e45, h5_0, h5_3, g5_0, n5_g⟩ := hp
  rcases q50 with _ | q51
  ·rw [frame_uintBytes_L1] at e45; cases e45
  ·rw [frame_uintBytes_L1] at e45; try dsimp only at e45
   have F1 := an h5_0 (an h5_3 g5_0)
   refine goR F1 ?_
   revert e45; refine cS F1 ?_ ?_ <;> intro h55 e45
   ·revert e45; refine lK fun l56 hx57 e45 => ?_
    have hx57n : l56.length = 1 := by rw [hx57]; rfl
    obtain ⟨g58, e45⟩ := guardO_some e45
    have g58 := limB_t g58
    obtain ⟨g58a, g58b⟩ := g58
    revert e45; refine lK fun l59 hx60 e45 => ?_
    have hx60n : l59.length = (l35.length + l56.length) := by rw [hx60]; simp
    have hx60e : encL l59 = encL l35 ++ encL l56 := by rw [hx60]; simp
    have F2 := an F1 (an hx57 (an hx60n hx60e))
    refine goR F2 ?_
    exact hL48 (q51, IntKind.i64.wrap (Int.tdiv i34 128), l59) _ _ (Gh.ren _ (.o (σ6.gen + 2) 6 0) (.l 4) (by simp) rfl rfl) ⟨e45, pv F2, pv F2, pv F2, pg⟩ (by omega)
   ·refine goR F1 ?_
    obtain rfl := sj e45
    try dsimp only at e30
    exact hK32 (i34, l35) _ _ (Gh.ren _ (.l 4) (.l 1) (by simp) rfl rfl) ⟨e30, pv F1, pv F1, pv F1, pg⟩
 ·obtain ⟨i28, l29⟩ := v
  dsimp only at hp
  obtain ⟨e30, h4_0, h4_3, g4_0, n4_g⟩ := hp
  obtain rfl := sj e30
  try dsimp only at hs
  revert hs; refine lK fun l61 hx62 hs => ?_
  have hx62n : l61.length = 1 := by rw [hx62]; rfl
  obtain ⟨g63, hs⟩ := guardO_some hs
  have g63 := limB_t g63
  obtain ⟨g63a, g63b⟩ := g63
  revert hs; refine lK fun l64 hx65 hs => ?_
  have hx65n : l64.length = (l29.length + l61.length) := by rw [hx65]; simp
  have hx65e : encL l64 = encL l29 ++ encL l61 := by rw [hx65]; simp
  have F3 := an h4_0 (an h4_3 (an g4_0 (an hx62 (an hx65n hx65e))))
  refine goR F3 ?_
  have f66 : (encL l64).take (l64.length) = encL l64 := encL_take1 _ (by simp)
  try simp [F3] at f66
  have f66l : l64.length * 1 <= (encL l64).length := by rw [encL_length]; simp
  try simp [F3] at f66l
  obtain rfl := sj hs
  have F4 := an F3 (an f66 f66l)
  exact hQ _ _ (rg F4 (Gh.frz _ (.o (σ3.gen + 1) 4 0)))
end Go.Dc
end
section
set_option linter.all false
namespace Go.Dc
open Go Go.Hw Go.Proofs
set_option maxRecDepth 100000
def frame_AppendUint (fuelN : Nat) (a0 : List UInt8) (a1 : Int) : Option (List UInt8) :=
 cond (orB (ltI a1 0) (ltI 4611686018427387904 a1)) (Option.bind (some ([a0])) (fun l2 => Option.bind (frame_join l2) (fun y4 => some y4))) (Option.bind (frame_uintBytes fuelN a1) (fun y6 => Option.bind (some ([a0, y6])) (fun l8 => Option.bind (frame_join l8) (fun y10 => some y10))))
set_option maxHeartbeats 2000000 in
theorem at_frame_AppendUint {fuelN : Nat} {a0 : List UInt8} {a1 : Int} {r : (List UInt8)} (hs : frame_AppendUint fuelN a0 a1 = some r) : CAt Tryd.prog 19 [.cell (sC a0), iV .i64 a1] [] (.ret (.cell (.sl (.r 0) 0 1 r.length))) [(.r 0, .pure (encL r))] := by
 refine at_bound (by kernel_rfl) fun hb => ?_
 have hb1 : LenOk (.sl a0.length (encL a0)) := lkc hb
 refine at_code mixed Tryd.func19 (by kernel_rfl) rfl (by kernel_rfl) rfl fun Q hQ => ?_
 rw [frame_AppendUint] at hs
 refine goG f0 f0 ?_
 revert hs; refine cS f0 ?_ ?_ <;> intro h1 hs
 ·revert hs; refine lK fun l2 hx3 hs => ?_
  have hx3n : l2.length = 1 := by rw [hx3]; rfl
  refine goG hx3 hx3 ?_
  revert hs; refine bK fun y4 hx5 hs => ?_
  refine cA hx3 (at_frame_join hx5) ?_
  refine goG hx3 hx3 ?_
  obtain rfl := sj hs
  refine hQ _ _ (ret2g _ (Gh.ren _ (.o 3 2 0) (.r 0) (by simp) rfl rfl) (by simp [St.frz, St.pur, hx3]; rfl) (by first | rfl | (simp [St.frz, St.pur, hx3]; done) | (rw [if_pos (by first | omega | (simp; omega))]; simp [St.frz, St.pur, hx3]; first | omega | exact List.take_of_length_le (by simp; omega) | skip)) (pv hx3))
 ·refine goG f0 f0 ?_
  revert hs; refine bK fun y6 hx7 hs => ?_
  refine cP f0 (at_frame_uintBytes hx7) ?_
  revert hs; refine lK fun l8 hx9 hs => ?_
  have hx9n : l8.length = 2 := by rw [hx9]; rfl
  refine goG hx9 hx9 ?_
  revert hs; refine bK fun y10 hx11 hs => ?_
  refine cA hx9 (at_frame_join hx11) ?_
  refine goG hx9 hx9 ?_
  obtain rfl := sj hs
  refine hQ _ _ (ret2g _ (Gh.ren _ (.o 3 4 0) (.r 0) (by simp) rfl rfl) (by simp [St.frz, St.pur, hx9]; rfl) (by first | rfl | (simp [St.frz, St.pur, hx9]; done) | (rw [if_pos (by first | omega | (simp; omega))]; simp [St.frz, St.pur, hx9]; first | omega | exact List.take_of_length_le (by simp; omega) | skip)) (pv hx9))
end Go.Dc
end
section
set_option linter.all false
namespace Go.Dc
open Go Go.Hw Go.Proofs
set_option maxRecDepth 100000
def frame_inRange (a0 : Int) : Option Bool :=
 some (andB (!(ltI a0 (-2305843009213693952))) (!(ltI 2305843009213693952 a0)))
set_option maxHeartbeats 2000000 in
theorem at_frame_inRange {a0 : Int} {r : Bool} (hs : frame_inRange a0 = some r) : At Tryd.prog 54 [iV .i64 a0] (bV r) := by
 refine at_bound (by kernel_rfl) fun hb => ?_
 refine at_code mixed Tryd.func54 (by kernel_rfl) rfl (by kernel_rfl) rfl fun Q hQ => ?_
 rw [frame_inRange] at hs
 refine goG f0 f0 ?_
 obtain rfl := sj hs
 exact hQ _ _ (rg f0 (Gh.refl _))
end Go.Dc
end
section
set_option linter.all false
namespace Go.Dc
open Go Go.Hw Go.Proofs
set_option maxRecDepth 100000
def frame_intBytes (fuelN : Nat) (a0 : Int) : Option (List UInt8) :=
 cond (!(ltI a0 0)) (Option.bind (frame_uintBytes fuelN (IntKind.i64.wrap (2 * a0))) (fun y2 => some y2)) (Option.bind (frame_uintBytes fuelN (IntKind.i64.wrap (IntKind.i64.wrap ((-2) * a0) - 1))) (fun y4 => some y4))
set_option maxHeartbeats 2000000 in
theorem at_frame_intBytes {fuelN : Nat} {a0 : Int} {r : (List UInt8)} (hs : frame_intBytes fuelN a0 = some r) : At Tryd.prog 55 [iV .i64 a0] (.cell (sC r)) := by
 refine at_bound (by kernel_rfl) fun hb => ?_
 refine at_code mixed Tryd.func55 (by kernel_rfl) rfl (by kernel_rfl) rfl fun Q hQ => ?_
 rw [frame_intBytes] at hs
 refine goR f0 ?_
 revert hs; refine cS f0 ?_ ?_ <;> intro h1 hs
 ·refine goR f0 ?_
  revert hs; refine bK fun y2 hx3 hs => ?_
  refine cP f0 (at_frame_uintBytes hx3) ?_
  refine goR f0 ?_
  obtain rfl := sj hs
  exact hQ _ _ (rg f0 (Gh.refl _))
 ·refine goR f0 ?_
  revert hs; refine bK fun y4 hx5 hs => ?_
  refine cP f0 (at_frame_uintBytes hx5) ?_
  refine goR f0 ?_
  obtain rfl := sj hs
  exact hQ _ _ (rg f0 (Gh.refl _))
end Go.Dc
end
section
set_option linter.all false
namespace Go.Dc
open Go Go.Hw Go.Proofs
set_option maxRecDepth 100000
def frame_AppendInt (fuelN : Nat) (a0 : List UInt8) (a1 : Int) : Option (List UInt8) :=
 Option.bind (frame_inRange a1) (fun y1 => cond (!y1) (Option.bind (some ([a0])) (fun l4 => Option.bind (frame_join l4) (fun y6 => some y6))) (Option.bind (frame_intBytes fuelN a1) (fun y8 => Option.bind (some ([a0, y8])) (fun l10 => Option.bind (frame_join l10) (fun y12 => some y12)))))
set_option maxHeartbeats 2000000 in
theorem at_frame_AppendInt {fuelN : Nat} {a0 : List UInt8} {a1 : Int} {r : (List UInt8)} (hs : frame_AppendInt fuelN a0 a1 = some r) : CAt Tryd.prog 32 [.cell (sC a0), iV .i64 a1] [] (.ret (.cell (.sl (.r 0) 0 1 r.length))) [(.r 0, .pure (encL r))] := by
 refine at_bound (by kernel_rfl) fun hb => ?_
 have hb1 : LenOk (.sl a0.length (encL a0)) := lkc hb
 refine at_code mixed Tryd.func32 (by kernel_rfl) rfl (by kernel_rfl) rfl fun Q hQ => ?_
 rw [frame_AppendInt] at hs
 refine goR f0 ?_
 revert hs; refine bK fun y1 hx2 hs => ?_
 refine cP f0 (at_frame_inRange hx2) ?_
 refine goR f0 ?_
 revert hs; refine cS f0 ?_ ?_ <;> intro h3 hs
 ·revert hs; refine lK fun l4 hx5 hs => ?_
  have hx5n : l4.length = 1 := by rw [hx5]; rfl
  refine goR hx5 ?_
  revert hs; refine bK fun y6 hx7 hs => ?_
  refine cA hx5 (at_frame_join hx7) ?_
  refine goR hx5 ?_
  obtain rfl := sj hs
  refine hQ _ _ (ret2g _ (Gh.ren _ (.o 3 2 0) (.r 0) (by simp) rfl rfl) (by simp [St.frz, St.pur, hx5]; rfl) (by first | rfl | (simp [St.frz, St.pur, hx5]; done) | (rw [if_pos (by first | omega | (simp; omega))]; simp [St.frz, St.pur, hx5]; first | omega | exact List.take_of_length_le (by simp; omega) | skip)) (pv hx5))
 ·refine goR f0 ?_
  revert hs; refine bK fun y8 hx9 hs => ?_
  refine cP f0 (at_frame_intBytes hx9) ?_
  revert hs; refine lK fun l10 hx11 hs => ?_
  have hx11n : l10.length = 2 := by rw [hx11]; rfl
  refine goR hx11 ?_
  revert hs; refine bK fun y12 hx13 hs => ?_
  refine cA hx11 (at_frame_join hx13) ?_
  refine goR hx11 ?_
  obtain rfl := sj hs
  refine hQ _ _ (ret2g _ (Gh.ren _ (.o 3 4 0) (.r 0) (by simp) rfl rfl) (by simp [St.frz, St.pur, hx11]; rfl) (by first | rfl | (simp [St.frz, St.pur, hx11]; done) | (rw [if_pos (by first | omega | (simp; omega))]; simp [St.frz, St.pur, hx11]; first | omega | exact List.take_of_length_le (by simp; omega) | skip)) (pv hx11))
end Go.Dc
end
section
set_option linter.all false
namespace Go.Dc
open Go Go.Hw Go.Proofs
set_option maxRecDepth 100000
def r06_AppendUint_L1 : Nat -> Int -> (List UInt8) -> Option (Int × (List UInt8))
 | 0, _, _ => none
 | q58 + 1, i41, l42 => cond (!(ltI i41 128)) (Option.bind (some ([u8 (IntKind.u8.wrap (IntKind.i64.wrap (Int.tmod i41 128 + 128)))])) (fun l63 => guardO (limB 1 (l42.length + l63.length)) (Option.bind (some (l42 ++ l63)) (fun l66 => r06_AppendUint_L1 q58 (IntKind.i64.wrap (Int.tdiv i41 128)) l66)))) (some ((i41, l42)))
def r06_AppendUint (fuelN : Nat) (a0 : List UInt8) (a1 : Int) : Option (List UInt8) :=
 Option.bind (some (([] : List UInt8))) (fun l1 => guardO (limB 1 (l1.length + a0.length)) (Option.bind (some (l1 ++ a0)) (fun l4 => cond (orB (ltI a1 0) (ltI 4611686018427387904 a1)) (some l4) (Option.bind (α := Int × (List UInt8)) (Option.bind (r06_AppendUint_L1 fuelN a1 l4) (fun o => match o with | (i50, l51) => some ((i50, l51)))) (fun o => match o with | (i35, l36) => Option.bind (some ([u8 (IntKind.u8.wrap i35)])) (fun l68 => guardO (limB 1 (l36.length + l68.length)) (Option.bind (some (l36 ++ l68)) (fun l71 => some l71))))))))
end Go.Dc
end
section
set_option linter.all false
namespace Go.Dc
open Go Go.Hw Go.Proofs
set_option maxRecDepth 100000
def r06_fits (a0 : Int) : Option Bool :=
 some (andB (!(ltI a0 (-2305843009213693952))) (!(ltI 2305843009213693952 a0)))
end Go.Dc
end
section
set_option linter.all false
namespace Go.Dc
open Go Go.Hw Go.Proofs
set_option maxRecDepth 100000
def r06_AppendInt (fuelN : Nat) (a0 : List UInt8) (a1 : Int) : Option (List UInt8) :=
 Option.bind (r06_fits a1) (fun y1 => cond (!y1) (Option.bind (some (([] : List UInt8))) (fun l4 => guardO (limB 1 (l4.length + a0.length)) (Option.bind (some (l4 ++ a0)) (fun l7 => some l7)))) (cond (ltI a1 0) (Option.bind (r06_AppendUint fuelN a0 (IntKind.i64.wrap (IntKind.i64.wrap ((-2) * a1) - 1))) (fun y10 => some y10)) (Option.bind (r06_AppendUint fuelN a0 (IntKind.i64.wrap (2 * a1))) (fun y12 => some y12))))
end Go.Dc
end
section
set_option linter.all false
namespace Go.Dc
open Go Go.Hw Go.Proofs
set_option maxRecDepth 100000
def frame_AppendString (fuelN : Nat) (a0 : List UInt8) (a1 : ByteArray) : Option (List UInt8) :=
 Option.bind (frame_uintBytes fuelN ((a1.size : Nat) : Int)) (fun y1 => guardO (strB3 a1) (Option.bind (some ([a0, y1, a1.data.toList])) (fun l4 => Option.bind (frame_join l4) (fun y6 => some y6))))
set_option maxHeartbeats 2000000 in
theorem at_frame_AppendString {fuelN : Nat} {a0 : List UInt8} {a1 : ByteArray} {r : (List UInt8)} (hs : frame_AppendString fuelN a0 a1 = some r) : CAt Tryd.prog 52 [.cell (sC a0), sV a1] [] (.ret (.cell (.sl (.r 0) 0 1 r.length))) [(.r 0, .pure (encL r))] := by
 refine at_bound (by kernel_rfl) fun hb => ?_
 have hb1 : LenOk (.sl a0.length (encL a0)) := lkc hb
 refine at_code mixed Tryd.func52 (by kernel_rfl) rfl (by kernel_rfl) rfl fun Q hQ => ?_
 rw [frame_AppendString] at hs
 refine goR f0 ?_
 revert hs; refine bK fun y1 hx2 hs => ?_
 refine cP f0 (at_frame_uintBytes hx2) ?_
 obtain ⟨g3, hs⟩ := guardO_some hs
 have g3b := strB3_t g3
 revert hs; refine lK fun l4 hx5 hs => ?_
 have hx5n : l4.length = 3 := by rw [hx5]; rfl
 have F1 := an g3b hx5
 refine goR F1 ?_
 revert hs; refine bK fun y6 hx7 hs => ?_
 refine cA F1 (at_frame_join hx7) ?_
 refine goR F1 ?_
 obtain rfl := sj hs
 refine hQ _ _ (ret2g _ (Gh.ren _ (.o 2 7 0) (.r 0) (by simp) rfl rfl) (by simp [St.frz, St.pur, F1]; rfl) (by first | rfl | (simp [St.frz, St.pur, F1]; done) | (rw [if_pos (by first | omega | (simp; omega))]; simp [St.frz, St.pur, F1]; first | omega | exact List.take_of_length_le (by simp; omega) | skip)) (pv F1))
end Go.Dc
end
section
set_option linter.all false
namespace Go.Dc
open Go Go.Hw Go.Proofs
set_option maxRecDepth 100000
def r06_AppendString (fuelN : Nat) (a0 : List UInt8) (a1 : ByteArray) : Option (List UInt8) :=
 Option.bind (r06_AppendUint fuelN a0 ((a1.size : Nat) : Int)) (fun y1 => guardO (limB 1 (y1.length + a1.size)) (Option.bind (some (y1 ++ a1.data.toList)) (fun l4 => some l4)))
end Go.Dc
end
section
set_option linter.all false
namespace Go.Dc.Pl
open Go Go.Hw Go.Dc
def byteN (n : Nat) : UInt8 := UInt8.ofNat n
theorem byteN_toNat (n : Nat) : (byteN n).toNat = n % 256 := by simp [byteN]
theorem wrap_u8_nat (n : Nat) : IntKind.wrap .u8 (n : Int) = ((byteN n).toNat : Int) := by
 simp [byteN, IntKind.wrap, IntKind.bits, IntKind.signed]
theorem u8_nat (n : Nat) : u8 (IntKind.u8.wrap (n : Int)) = byteN n := by
 rw [wrap_u8_nat, u8, Int.toNat_natCast]; simp
theorem tmod_nat (a b : Nat) : (a : Int).tmod (b : Int) = ((a % b : Nat) : Int) := by rw [Int.tmod_eq_emod_of_nonneg (by omega)]; simp
theorem tdiv_nat (a b : Nat) : (a : Int).tdiv (b : Int) = ((a / b : Nat) : Int) := by rw [Int.tdiv_eq_ediv_of_nonneg (by omega)]; simp
def uintB (n : Nat) : List UInt8 := if n < 128 then [byteN n] else byteN (n % 128 + 128) :: uintB (n / 128)
termination_by n
decreasing_by omega
theorem uintB_lt {n : Nat} (h : n < 128) : uintB n = [byteN n] := by rw [uintB, if_pos h]
theorem uintB_ge {n : Nat} (h : 128 <= n) : uintB n = byteN (n % 128 + 128) :: uintB (n / 128) := by rw [uintB, if_neg (by omega)]
theorem uintB_length : ∀ k n : Nat, n < 128 ^ (k + 1) -> (uintB n).length <= k + 1
 | 0, n, h => by rw [uintB_lt (by simpa using h)]; simp
 | k + 1, n, h => by
  by_cases hn : n < 128
  ·rw [uintB_lt hn]; simp
  ·rw [uintB_ge (by omega)]
   have := uintB_length k (n / 128) (by rw [Nat.pow_succ] at h; omega)
   simp; omega
theorem uintB_le9 {n : Nat} (h : n <= 4611686018427387904) : (uintB n).length <= 9 := uintB_length 8 n (by omega)
theorem lim1 {n : Nat} (h : n <= 1099511627776) : limB 1 n = true := by simp only [limB, decide_eq_true_eq]; omega
theorem uintLoop {L : Nat -> Int -> List UInt8 -> Option (Int × List UInt8)}
  (h : ∀ q i l, L (q + 1) i l = cond (!(ltI i 128)) (guardO (limB 1 (l.length + 1)) (L q (IntKind.i64.wrap (Int.tdiv i 128)) (l ++ [u8 (IntKind.u8.wrap (IntKind.i64.wrap (Int.tmod i 128 + 128)))]))) (some (i, l))) :
  ∀ (k q n : Nat) (l : List UInt8), n < 128 ^ (k + 1) -> k < q -> n < 9223372036854775808 -> l.length + (uintB n).length <= 1099511627776 ->
   ∃ (m : Nat) (r : List UInt8), L q (n : Int) l = some ((m : Int), r) /\ r ++ [byteN m] = l ++ uintB n := by
 intro k
 induction k with
 | zero =>
  intro q n l hn hq hb hl
  obtain ⟨q, rfl⟩ : ∃ q', q = q' + 1 := ⟨q - 1, by omega⟩
  refine ⟨n, l, ?_, by rw [uintB_lt (by simpa using hn)]⟩
  rw [h, ltI_d, decide_eq_true (by simp at hn; omega)]; rfl
 | succ k ih =>
  intro q n l hn hq hb hl
  obtain ⟨q, rfl⟩ : ∃ q', q = q' + 1 := ⟨q - 1, by omega⟩
  by_cases h1 : n < 128
  ·refine ⟨n, l, ?_, by rw [uintB_lt h1]⟩
   rw [h, ltI_d, decide_eq_true (by omega)]; rfl
  ·have e1 : IntKind.i64.wrap (Int.tdiv (n : Int) 128) = ((n / 128 : Nat) : Int) := by
    rw [show (128 : Int) = ((128 : Nat) : Int) from rfl, tdiv_nat, wrap_i64 (by omega) (by omega)]
   have e2 : u8 (IntKind.u8.wrap (IntKind.i64.wrap (Int.tmod (n : Int) 128 + 128))) = byteN (n % 128 + 128) := by
    rw [show (128 : Int) = ((128 : Nat) : Int) from rfl, tmod_nat, <- Int.natCast_add, wrap_i64 (by omega) (by omega), u8_nat]
   have hu := uintB_ge (by omega : 128 <= n)
   rw [hu, List.length_cons] at hl
   obtain ⟨m, r, g1, g2⟩ := ih q (n / 128) (l ++ [byteN (n % 128 + 128)]) (by rw [Nat.pow_succ] at hn; omega) (by omega) (by omega) (by simp; omega)
   refine ⟨m, r, ?_, by rw [g2, hu]; simp⟩
   rw [h, ltI_d, decide_eq_false (by omega), e1, e2]
   show guardO _ _ = _
   rw [lim1 (by omega)]; exact g1
theorem own_L1 (q : Nat) (i : Int) (l : List UInt8) : frame_uintBytes_L1 (q + 1) i l = cond (!(ltI i 128)) (guardO (limB 1 (l.length + 1)) (frame_uintBytes_L1 q (IntKind.i64.wrap (Int.tdiv i 128)) (l ++ [u8 (IntKind.u8.wrap (IntKind.i64.wrap (Int.tmod i 128 + 128)))]))) (some (i, l)) := rfl
theorem ref_L1 (q : Nat) (i : Int) (l : List UInt8) : r06_AppendUint_L1 (q + 1) i l = cond (!(ltI i 128)) (guardO (limB 1 (l.length + 1)) (r06_AppendUint_L1 q (IntKind.i64.wrap (Int.tdiv i 128)) (l ++ [u8 (IntKind.u8.wrap (IntKind.i64.wrap (Int.tmod i 128 + 128)))]))) (some (i, l)) := rfl
theorem own_uintB {f n : Nat} (hn : n <= 4611686018427387904) (hf : 9 <= f) : frame_uintBytes f (n : Int) = some (uintB n) := by
 have h9 := uintB_le9 hn
 obtain ⟨m, r, h1, h2⟩ := uintLoop own_L1 8 f n [] (by omega) (by omega) (by omega) (by simp; omega)
 unfold frame_uintBytes
 rw [h1]
 show guardO (limB 1 (r.length + 1)) (some (r ++ [u8 (IntKind.u8.wrap (m : Int))])) = _
 rw [u8_nat, h2]
 have : r.length + 1 = (uintB n).length := by have := congrArg List.length h2; simpa using this
 rw [lim1 (by omega)]; rfl
/-- Appending an integer that is not negative. -/
def appU (b : List UInt8) (n : Int) : List UInt8 := if n < 0 \/ 4611686018427387904 < n then b else b ++ uintB n.toNat
theorem join_eq : ∀ (l : List (List UInt8)) (b : List UInt8) (k : Nat), (b ++ l.flatten).length <= 1099511627776 -> frame_join_L1 l b k = some (b ++ l.flatten)
 | [], b, k, _ => by simp [frame_join_L1]
 | x :: l, b, k, h => by
  simp only [List.flatten_cons, List.length_append] at h
  rw [frame_join_L1, lim1 (by omega)]
  show frame_join_L1 l (b ++ x) (k + 1) = _
  rw [join_eq l (b ++ x) (k + 1) (by simp only [List.length_append]; omega)]; simp
theorem own_join {l : List (List UInt8)} (h : l.flatten.length <= 1099511627776) : frame_join l = some l.flatten := by
 unfold frame_join; rw [join_eq l [] 0 (by simpa using h)]; rfl
theorem own_appU {f : Nat} {b : List UInt8} {n : Int} (hf : 9 <= f) (hb : b.length + 9 <= 1099511627776) : frame_AppendUint f b n = some (appU b n) := by
 unfold frame_AppendUint appU
 rw [orB_d, ltI_d, ltI_d, <- Bool.decide_or]
 by_cases h : n < 0 \/ 4611686018427387904 < n
 ·rw [if_pos h, decide_eq_true h]
  show Option.bind (frame_join [b]) some = _
  rw [own_join (by simp; omega)]; simp
 ·rw [if_neg h, decide_eq_false h]
  obtain ⟨k, rfl⟩ : ∃ k : Nat, n = k := ⟨n.toNat, by omega⟩
  have h9 := uintB_le9 (n := k) (by omega)
  show Option.bind (frame_uintBytes f k) _ = _
  rw [own_uintB (by omega) hf]
  show Option.bind (frame_join [b, uintB k]) some = _
  rw [own_join (by simp; omega)]; simp
theorem ref_appU {f : Nat} {b : List UInt8} {n : Int} (hf : 9 <= f) (hb : b.length + 9 <= 1099511627776) : r06_AppendUint f b n = some (appU b n) := by
 unfold r06_AppendUint appU
 rw [orB_d, ltI_d, ltI_d, <- Bool.decide_or]
 show guardO (limB 1 (([] : List UInt8).length + b.length)) _ = _
 rw [lim1 (by simp; omega)]
 by_cases h : n < 0 \/ 4611686018427387904 < n
 ·rw [if_pos h, decide_eq_true h]; rfl
 ·rw [if_neg h, decide_eq_false h]
  obtain ⟨k, rfl⟩ : ∃ k : Nat, n = k := ⟨n.toNat, by omega⟩
  have h9 := uintB_le9 (n := k) (by omega)
  obtain ⟨m, r, h1, h2⟩ := uintLoop ref_L1 8 f k b (by omega) (by omega) (by omega) (by omega)
  simp only [guardO_t, Option.bind_some, cond_false, List.nil_append, h1]
  rw [show ([u8 (IntKind.u8.wrap (m : Int))] : List UInt8).length = 1 from rfl, u8_nat, h2]
  have : r.length + 1 = b.length + (uintB k).length := by have := congrArg List.length h2; simpa using this
  rw [lim1 (by omega)]; simp
/-! Signed integers. -/
def inR (n : Int) : Bool := decide (-2305843009213693952 <= n) && decide (n <= 2305843009213693952)
def intCode (n : Int) : Nat := if 0 <= n then (2 * n).toNat else (-2 * n - 1).toNat
theorem inR_t {n : Int} (h : inR n = true) : -2305843009213693952 <= n /\ n <= 2305843009213693952 := by simpa [inR] using h
theorem intCode_le {n : Int} (h : inR n = true) : intCode n <= 4611686018427387904 := by
 have := inR_t h; unfold intCode; split <;> omega
theorem ltI_not {a b : Int} : (!ltI a b) = decide (b <= a) := by
 rw [ltI_d]; by_cases h : a < b
 ·rw [decide_eq_true h, decide_eq_false (by omega)]; rfl
 ·rw [decide_eq_false h, decide_eq_true (by omega)]; rfl
theorem own_inR (n : Int) : frame_inRange n = some (inR n) := by unfold frame_inRange inR; rw [ltI_not, ltI_not, andB_d]
theorem ref_inR (n : Int) : r06_fits n = some (inR n) := by unfold r06_fits inR; rw [ltI_not, ltI_not, andB_d]
theorem own_intB {f : Nat} {n : Int} (h : inR n = true) (hf : 9 <= f) : frame_intBytes f n = some (uintB (intCode n)) := by
 have hr := inR_t h; have hc := intCode_le h
 unfold frame_intBytes
 rw [ltI_not]
 by_cases h0 : 0 <= n
 ·rw [decide_eq_true h0, wrap_i64 (by omega) (by omega), show 2 * n = ((intCode n : Nat) : Int) by unfold intCode; rw [if_pos h0]; omega]
  show Option.bind (frame_uintBytes f (intCode n : Int)) some = _
  rw [own_uintB hc hf]; rfl
 ·rw [decide_eq_false h0]
  show Option.bind (frame_uintBytes f (IntKind.i64.wrap (IntKind.i64.wrap (-2 * n) - 1))) some = _
  rw [wrap_i64 (n := -2 * n) (by omega) (by omega), wrap_i64 (by omega) (by omega), show -2 * n - 1 = ((intCode n : Nat) : Int) by unfold intCode; rw [if_neg h0]; omega, own_uintB hc hf]; rfl
def appI (b : List UInt8) (n : Int) : List UInt8 := if inR n then b ++ uintB (intCode n) else b
theorem own_appI {f : Nat} {b : List UInt8} {n : Int} (hf : 9 <= f) (hb : b.length + 9 <= 1099511627776) : frame_AppendInt f b n = some (appI b n) := by
 unfold frame_AppendInt appI
 rw [own_inR]
 show cond (!inR n) _ _ = _
 cases h : inR n
 ·show Option.bind (frame_join [b]) some = _
  rw [own_join (by simp; omega)]; simp
 ·have h9 := uintB_le9 (intCode_le h)
  show Option.bind (frame_intBytes f n) _ = _
  rw [own_intB h hf]
  show Option.bind (frame_join [b, uintB (intCode n)]) some = _
  rw [own_join (by simp; omega)]; simp
theorem appU_code {b : List UInt8} {n : Int} (h : inR n = true) : appU b ((intCode n : Nat) : Int) = b ++ uintB (intCode n) := by
 have := intCode_le h; unfold appU; rw [if_neg (by omega)]; simp
theorem ref_appI {f : Nat} {b : List UInt8} {n : Int} (hf : 9 <= f) (hb : b.length + 9 <= 1099511627776) : r06_AppendInt f b n = some (appI b n) := by
 unfold r06_AppendInt appI
 rw [ref_inR]
 show cond (!inR n) _ _ = _
 cases h : inR n
 ·show guardO (limB 1 (([] : List UInt8).length + b.length)) _ = _
  rw [lim1 (by simp; omega)]; rfl
 ·have hr := inR_t h
  show cond (ltI n 0) _ _ = _
  rw [ltI_d]
  by_cases h0 : n < 0
  ·rw [decide_eq_true h0]
   show Option.bind (r06_AppendUint f b (IntKind.i64.wrap (IntKind.i64.wrap (-2 * n) - 1))) some = _
   rw [wrap_i64 (n := -2 * n) (by omega) (by omega), wrap_i64 (by omega) (by omega), show -2 * n - 1 = ((intCode n : Nat) : Int) by unfold intCode; rw [if_neg (by omega)]; omega, ref_appU hf hb, appU_code h]; rfl
  ·rw [decide_eq_false h0]
   show Option.bind (r06_AppendUint f b (IntKind.i64.wrap (2 * n))) some = _
   rw [wrap_i64 (by omega) (by omega), show 2 * n = ((intCode n : Nat) : Int) by unfold intCode; rw [if_pos (by omega)]; omega, ref_appU hf hb, appU_code h]; rfl
/-! Strings. -/
def appS (b : List UInt8) (s : ByteArray) : List UInt8 := b ++ uintB s.size ++ s.data.toList
theorem own_appS {f : Nat} {b : List UInt8} {s : ByteArray} (hf : 9 <= f) (hs : s.size <= 1000000000) (hb : b.length <= 1000000000) : frame_AppendString f b s = some (appS b s) := by
 unfold frame_AppendString appS
 have h9 := uintB_le9 (n := s.size) (by omega)
 have hl := str_len s
 rw [own_uintB (by omega) hf]
 show guardO (strB3 s) (Option.bind (frame_join [b, uintB s.size, s.data.toList]) some) = _
 rw [show strB3 s = true by simp [strB3]; omega, own_join (by simp; omega)]; simp
theorem ref_appS {f : Nat} {b : List UInt8} {s : ByteArray} (hf : 9 <= f) (hs : s.size <= 1000000000) (hb : b.length <= 1000000000) : r06_AppendString f b s = some (appS b s) := by
 unfold r06_AppendString appS
 have h9 := uintB_le9 (n := s.size) (by omega)
 rw [ref_appU hf (by omega)]
 have e : appU b ((s.size : Nat) : Int) = b ++ uintB s.size := by unfold appU; rw [if_neg (by omega)]; simp
 rw [e]
 show guardO (limB 1 ((b ++ uintB s.size).length + s.size)) _ = _
 rw [lim1 (by simp; omega)]; rfl
end Go.Dc.Pl
end
section
set_option linter.all false
namespace Go.Dc
open Go Go.Hw Go.Proofs
set_option maxRecDepth 100000
def frame_Checksum_L2 : Nat -> Int -> Int -> Option Int
 | 0, _, _ => none
 | q547 + 1, i535, i536 => cond (ltI i536 8) (cond (eqI (bits .and .u32 i535 1) 1) (frame_Checksum_L2 q547 (bits .xor .u32 (shrI .u32 i535 1) 3988292384) (IntKind.i64.wrap (i536 + 1))) (frame_Checksum_L2 q547 (shrI .u32 i535 1) (IntKind.i64.wrap (i536 + 1)))) (some (i535))
def frame_Checksum_L1 (fuelN : Nat) (a0 : List UInt8) : Nat -> Int -> Int -> Option Int
 | 0, _, _ => none
 | q491 + 1, i416, i417 => cond (ltI i417 ((a0.length : Nat) : Int)) (Option.bind (α := Int) (Option.bind (getI a0 i417) (fun x527 => Option.bind (frame_Checksum_L2 fuelN (bits .xor .u32 i416 (IntKind.u32.wrap (x527.toNat : Int))) 0) (fun i540 => some (i540)))) (fun i522 => frame_Checksum_L1 fuelN a0 q491 i522 (IntKind.i64.wrap (i417 + 1)))) (some (i416))
def frame_Checksum (fuelN : Nat) (a0 : List UInt8) : Option Int :=
 Option.bind (α := Int) (Option.bind (frame_Checksum_L1 fuelN a0 fuelN 4294967295 0) (fun i484 => some (i484))) (fun i275 => some (bits .xor .u32 4294967295 i275))
set_option maxHeartbeats 2000000 in
theorem at_frame_Checksum {fuelN : Nat} {a0 : List UInt8} {r : Int} (hs : frame_Checksum fuelN a0 = some r) : At Tryd.prog 22 [.cell (sC a0)] (iV .u32 r) := by
 refine at_bound (by kernel_rfl) fun hb => ?_
 have hb1 : LenOk (.sl a0.length (encL a0)) := lkc hb
 refine at_code mixed Tryd.func22 (by kernel_rfl) rfl (by kernel_rfl) rfl fun Q hQ => ?_
 rw [frame_Checksum] at hs
 refine goR2 f0 ?_
 revert hs; refine bK fun o277 e276 hs => ?_
 refine awp_cutK (fun (v : Int) (σ : St) => some (v) = some o277 /\ σ.env 3 = iV .u32 v /\ 3 <= σ.gen) (by rfl) (fun Q hK278 hX279 => ?_) (fun i275 σ27 hp => ?_)
 ·refine goR f0 ?_
  revert e276; refine bK fun o486 e485 e276 => ?_
  refine awp_loopW (fun (v : Nat × Int × Int) (σ : St) => frame_Checksum_L1 fuelN a0 v.1 v.2.1 v.2.2 = some o486 /\ σ.env 3 = iV .u32 v.2.1 /\ σ.env 7 = .cell (sC a0) /\ σ.env 8 = iV .i64 ((a0.length : Nat) : Int) /\ σ.env 9 = iV .i64 v.2.2 /\ 3 <= σ.gen) (fun v => v.1) _ (Gh.refl _) (fuelN, 4294967295, 0) ⟨e485, pv f0, pv f0, pv f0, pv f0, pg⟩ fun v σ48 hp L487 hL488 => ?_
  obtain ⟨q490, i416, i417⟩ := v
  dsimp only at hp hL488
  obtain ⟨e485, h47_3, h47_7, h47_8, h47_9, n47_g⟩ := hp
  rcases q490 with _ | q491
  ·rw [frame_Checksum_L1] at e485; cases e485
  ·rw [frame_Checksum_L1] at e485; try dsimp only at e485
   have F1 := an h47_3 (an h47_7 (an h47_8 h47_9))
   refine goR F1 ?_
   revert e485; refine cS F1 ?_ ?_ <;> intro h495 e485
   ·refine goR2 F1 ?_
    revert e485; refine bK fun o524 e523 e485 => ?_
    refine awp_cutK (fun (v : Int) (σ : St) => some (v) = some o524 /\ σ.env 3 = iV .u32 v /\ σ.env 7 = .cell (sC a0) /\ σ.env 8 = iV .i64 ((a0.length : Nat) : Int) /\ σ.env 9 = iV .i64 i417 /\ (σ48.gen + 1) <= σ.gen) (by rfl) (fun Q hK525 hX526 => ?_) (fun i522 σ51 hp => ?_)
    ·revert e523; refine bK fun x527 hx528 e523 => ?_
     obtain ⟨hx528a, hx528b, hx528c, hx528d⟩ := getI_some hx528
     have f529 : partCV Tryd.prog 5 (encL a0) ((i417).toNat) = some (iV .u8 (x527.toNat : Int)) := partCV_enc1 hx528d (by simp)
     have F2 := an F1 f529
     refine goR F2 ?_
     revert e523; refine bK fun o542 e541 e523 => ?_
     refine awp_loopW (fun (v : Nat × Int × Int) (σ : St) => frame_Checksum_L2 v.1 v.2.1 v.2.2 = some o542 /\ σ.env 3 = iV .u32 v.2.1 /\ σ.env 7 = .cell (sC a0) /\ σ.env 8 = iV .i64 ((a0.length : Nat) : Int) /\ σ.env 9 = iV .i64 i417 /\ σ.env 17 = iV .i64 v.2.2 /\ (σ48.gen + 4) <= σ.gen) (fun v => v.1) _ (Gh.refl _) (fuelN, bits .xor .u32 i416 (IntKind.u32.wrap (x527.toNat : Int)), 0) ⟨e541, pv F2, pv F2, pv F2, pv F2, pv F2, pg⟩ fun v σ54 hp L543 hL544 => ?_
     obtain ⟨q546, i535, i536⟩ := v
     dsimp only at hp hL544
     obtain ⟨e541, h53_3, h53_7, h53_8, h53_9, h53_17, n53_g⟩ := hp
     rcases q546 with _ | q547
     ·rw [frame_Checksum_L2] at e541; cases e541
     ·rw [frame_Checksum_L2] at e541; try dsimp only at e541
      have F3 := an h53_3 (an h53_7 (an h53_8 (an h53_9 (an h53_17 f529))))
      refine goR F3 ?_
      revert e541; refine cS F3 ?_ ?_ <;> intro h551 e541
      ·refine goR F3 ?_
       revert e541; refine cS F3 ?_ ?_ <;> intro h552 e541
       ·refine goR F3 ?_
        exact hL544 (q547, bits .xor .u32 (shrI .u32 i535 1) 3988292384, IntKind.i64.wrap (i536 + 1)) _ _ (Gh.refl _) ⟨e541, pv F3, pv F3, pv F3, pv F3, pv F3, pg⟩ (by omega)
       ·refine goR F3 ?_
        exact hL544 (q547, shrI .u32 i535 1, IntKind.i64.wrap (i536 + 1)) _ _ (Gh.refl _) ⟨e541, pv F3, pv F3, pv F3, pv F3, pv F3, pg⟩ (by omega)
      ·refine goR F3 ?_
       obtain rfl := sj e541
       try dsimp only at e523
       exact hK525 i535 _ _ (Gh.refl _) ⟨e523, pv F3, pv F3, pv F3, pv F3, pg⟩
    ·obtain ⟨e523, h52_3, h52_7, h52_8, h52_9, n52_g⟩ := hp
     obtain rfl := sj e523
     try dsimp only at e485
     have F4 := an h52_3 (an h52_7 (an h52_8 h52_9))
     refine goR F4 ?_
     exact hL488 (q491, i522, IntKind.i64.wrap (i417 + 1)) _ _ (Gh.refl _) ⟨e485, pv F4, pv F4, pv F4, pv F4, pg⟩ (by omega)
   ·refine goR F1 ?_
    obtain rfl := sj e485
    try dsimp only at e276
    exact hK278 i416 _ _ (Gh.refl _) ⟨e276, pv F1, pg⟩
 ·obtain ⟨e276, h28_3, n28_g⟩ := hp
  obtain rfl := sj e276
  try dsimp only at hs
  refine goR h28_3 ?_
  obtain rfl := sj hs
  exact hQ _ _ (rg h28_3 (Gh.refl _))
end Go.Dc
end
section
set_option linter.all false
namespace Go.Dc
open Go Go.Hw Go.Proofs
set_option maxRecDepth 100000
def r06_Checksum_L2 : Nat -> Int -> Int -> Option Int
 | 0, _, _ => none
 | q547 + 1, i535, i536 => cond (ltI i536 8) (cond (eqI (Int.tmod i535 2) 1) (r06_Checksum_L2 q547 (bits .xor .u32 (IntKind.u32.wrap (Int.tdiv i535 2)) 3988292384) (IntKind.i64.wrap (i536 + 1))) (r06_Checksum_L2 q547 (IntKind.u32.wrap (Int.tdiv i535 2)) (IntKind.i64.wrap (i536 + 1)))) (some (i535))
def r06_Checksum_L1 (fuelN : Nat) (a0 : List UInt8) : Nat -> Int -> Int -> Option Int
 | 0, _, _ => none
 | q491 + 1, i416, i417 => cond (ltI i417 ((a0.length : Nat) : Int)) (Option.bind (α := Int) (Option.bind (getI a0 i417) (fun x527 => Option.bind (r06_Checksum_L2 fuelN (bits .xor .u32 i416 (IntKind.u32.wrap (x527.toNat : Int))) 0) (fun i540 => some (i540)))) (fun i522 => r06_Checksum_L1 fuelN a0 q491 i522 (IntKind.i64.wrap (i417 + 1)))) (some (i416))
def r06_Checksum (fuelN : Nat) (a0 : List UInt8) : Option Int :=
 Option.bind (α := Int) (Option.bind (r06_Checksum_L1 fuelN a0 fuelN 4294967295 0) (fun i484 => some (i484))) (fun i275 => some (bits .xor .u32 i275 4294967295))
end Go.Dc
end
section
set_option linter.all false
namespace Go.Dc.Pl
open Go Go.Hw Go.Dc
def crcS (c : Nat) : Nat := if c % 2 = 1 then (c / 2) ^^^ 3988292384 else c / 2
def crcK : Nat -> Nat -> Nat
 | 0, c => c
 | k + 1, c => crcK k (crcS c)
def crcL : List UInt8 -> Nat -> Nat
 | [], c => c
 | b :: l, c => crcL l (crcK 8 (c ^^^ b.toNat))
def crc (l : List UInt8) : Nat := crcL l 4294967295 ^^^ 4294967295
theorem crcS_lt {c : Nat} (h : c < 2 ^ 32) : crcS c < 2 ^ 32 := by
 unfold crcS; split
 ·exact Nat.xor_lt_two_pow (by omega) (by decide)
 ·omega
theorem crcK_lt : ∀ (k : Nat) {c : Nat}, c < 2 ^ 32 -> crcK k c < 2 ^ 32
 | 0, c, h => h
 | k + 1, c, h => crcK_lt k (crcS_lt h)
theorem byte_xor_lt {c : Nat} (b : UInt8) (h : c < 2 ^ 32) : c ^^^ b.toNat < 2 ^ 32 := Nat.xor_lt_two_pow h (Nat.lt_of_lt_of_le b.toNat_lt (by decide))
theorem crcL_lt : ∀ (l : List UInt8) {c : Nat}, c < 2 ^ 32 -> crcL l c < 2 ^ 32
 | [], c, h => h
 | b :: l, c, h => crcL_lt l (crcK_lt 8 (byte_xor_lt b h))
theorem crc_lt (l : List UInt8) : crc l < 2 ^ 32 := Nat.xor_lt_two_pow (crcL_lt l (by decide)) (by decide)
theorem shr_nat {k : IntKind} {a s : Nat} (hs : s <= k.bits) : shrI k (a : Int) (s : Int) = ((a / 2 ^ s : Nat) : Int) := by
 unfold shrI
 rw [Int.toNat_natCast, Nat.min_eq_left hs, Int.fdiv_eq_ediv_of_nonneg _ (by exact Int.le_of_lt (Int.pow_pos (by omega)))]
 simp
theorem wrap_u32_nat (n : Nat) : IntKind.wrap .u32 (n : Int) = ((n % 4294967296 : Nat) : Int) := by rw [IntKind.wrap_u32']; simp
theorem own_step {c : Nat} (h : c < 2 ^ 32) : cond (eqI (bits .and .u32 (c : Int) 1) 1) (bits .xor .u32 (shrI .u32 (c : Int) 1) 3988292384) (shrI .u32 (c : Int) 1) = ((crcS c : Nat) : Int) := by
 have e1 : bits .and .u32 (c : Int) 1 = ((c % 2 : Nat) : Int) := by rw [show (1 : Int) = ((1 : Nat) : Int) from rfl, u32_and_nat _ _ (by omega) (by decide), Nat.and_one_is_mod]
 have e2 : shrI .u32 (c : Int) 1 = ((c / 2 : Nat) : Int) := by rw [show (1 : Int) = ((1 : Nat) : Int) from rfl, shr_nat (by decide)]
 rw [e1, e2, show (3988292384 : Int) = ((3988292384 : Nat) : Int) from rfl, u32_xor_nat _ _ (by omega) (by decide), eqI_d]
 unfold crcS
 by_cases h : c % 2 = 1
 ·rw [if_pos h, decide_eq_true (by omega)]; rfl
 ·rw [if_neg h, decide_eq_false (by omega)]; rfl
theorem crcIn {L : Nat -> Int -> Int -> Option Int} (h0 : ∀ q c, L (q + 1) c 8 = some c) (h1 : ∀ (q c i : Nat), c < 2 ^ 32 -> i < 8 -> L (q + 1) (c : Int) (i : Int) = L q ((crcS c : Nat) : Int) ((i + 1 : Nat) : Int)) :
  ∀ (k q c i : Nat), c < 2 ^ 32 -> i + k = 8 -> k < q -> L q (c : Int) (i : Int) = some ((crcK k c : Nat) : Int) := by
 intro k
 induction k with
 | zero =>
  intro q c i hc hi hq
  obtain ⟨q, rfl⟩ : ∃ q', q = q' + 1 := ⟨q - 1, by omega⟩
  obtain rfl : i = 8 := by omega
  exact h0 q c
 | succ k ih =>
  intro q c i hc hi hq
  obtain ⟨q, rfl⟩ : ∃ q', q = q' + 1 := ⟨q - 1, by omega⟩
  rw [h1 q c i hc (by omega), ih q (crcS c) (i + 1) (crcS_lt hc) (by omega) (by omega)]; rfl
theorem crcOut {L : Nat -> Int -> Int -> Option Int} (a : List UInt8) (h0 : ∀ q c, L (q + 1) c ((a.length : Nat) : Int) = some c)
  (h1 : ∀ (q c i : Nat) (x : UInt8), c < 2 ^ 32 -> a[i]? = some x -> L (q + 1) (c : Int) (i : Int) = L q ((crcK 8 (c ^^^ x.toNat) : Nat) : Int) ((i + 1 : Nat) : Int)) :
  ∀ (q i c : Nat), c < 2 ^ 32 -> i <= a.length -> a.length < i + q -> L q (c : Int) (i : Int) = some ((crcL (a.drop i) c : Nat) : Int) := by
 intro q
 induction q with
 | zero => intro i c _ h1 h2; omega
 | succ q ih =>
  intro i c hc hi hq
  rcases Nat.lt_or_ge i a.length with h | h
  ·have hx : a[i]? = some a[i] := List.getElem?_eq_getElem h
   rw [h1 q c i _ hc hx, ih (i + 1) _ (crcK_lt 8 (byte_xor_lt _ hc)) (by omega) (by omega), drop_at hx]; rfl
  ·obtain rfl : i = a.length := by omega
   rw [h0, List.drop_length]; rfl
theorem cond_arg {α β : Type} (f : α -> β) (c : Bool) (x y : α) : cond c (f x) (f y) = f (cond c x y) := by cases c <;> rfl
theorem own_crc {f : Nat} {a : List UInt8} (hf : 9 <= f) (ha : a.length < f) (hb : a.length <= 1000000000000) : frame_Checksum f a = some ((crc a : Nat) : Int) := by
 have hin : ∀ (c : Nat), c < 2 ^ 32 -> frame_Checksum_L2 f (c : Int) 0 = some ((crcK 8 c : Nat) : Int) := fun c hc =>
  crcIn (L := frame_Checksum_L2) (fun q c => rfl) (fun q c i hc hi => by
   rw [frame_Checksum_L2, ltI_d, decide_eq_true (by omega), wrapS (by omega), cond_true, <- own_step hc]
   exact cond_arg (fun x => frame_Checksum_L2 q x ((i + 1 : Nat) : Int)) _ _ _) 8 f c 0 hc rfl (by omega)
 have hout := crcOut (L := frame_Checksum_L1 f a) a (fun q c => by rw [frame_Checksum_L1, ltI_d, decide_eq_false (by omega)]; rfl) (fun q c i x hc hx => by
  have hi := getN_some hx
  have hl := x.toNat_lt
  rw [frame_Checksum_L1, ltI_d, decide_eq_true (by omega), cond_true, getI_nat, hx, wrapS (by omega)]
  simp only [Option.bind_some]
  rw [wrap_u32_nat, Nat.mod_eq_of_lt (by omega), u32_xor_nat _ _ (by omega) (by omega), hin _ (byte_xor_lt x hc)]; rfl) f 0 4294967295 (by decide) (by omega) (by omega)
 unfold frame_Checksum
 rw [show (4294967295 : Int) = ((4294967295 : Nat) : Int) from rfl, show (0 : Int) = ((0 : Nat) : Int) from rfl, hout]
 show some (bits .xor .u32 _ _) = _
 rw [u32_xor_nat _ _ (by decide) (crcL_lt _ (by decide)), Nat.xor_comm]; rfl
end Go.Dc.Pl
end
section
set_option linter.all false
namespace Go.Dc
open Go Go.Hw Go.Proofs
set_option maxRecDepth 100000
def frame_decode_L1 (a0 : List UInt8) : Nat -> Int -> Int -> Option ((Int × Int) ⊕ (Int × Int × Int))
 | 0, _, _ => none
 | q75 + 1, i57, i58 => cond (eqI i58 9) (some (.inr (0, 0, 2))) (cond (eqI i58 ((a0.length : Nat) : Int)) (some (.inr (0, 0, 22))) (Option.bind (getI a0 i58) (fun x81 => cond (ltI (x81.toNat : Int) 128) (some (.inl (i57, i58))) (guardO (!(ltI (IntKind.i64.wrap (7 * i58)) 0)) (frame_decode_L1 a0 q75 (bits .or .u64 i57 (shlI .u64 (IntKind.u64.wrap (IntKind.u8.wrap ((x81.toNat : Int) - 128))) (IntKind.i64.wrap (7 * i58)))) (IntKind.i64.wrap (i58 + 1)))))))
def frame_decode (fuelN : Nat) (a0 : List UInt8) : Option (Int × Int × Int) :=
 Option.bind (α := (Int × Int) ⊕ (Int × Int × Int)) (Option.bind (frame_decode_L1 a0 fuelN 0 0) (fun o => match o with | .inl (i67, i68) => some (.inl (i67, i68)) | .inr r86 => some (.inr r86))) (fun o => match o with | .inl (i41, i42) => Option.bind (getI a0 i42) (fun x87 => cond (andB (eqI (x87.toNat : Int) 0) (ltI 0 i42)) (some (0, 0, 3)) (guardO (!(ltI (IntKind.i64.wrap (7 * i42)) 0)) (cond (ltI 4611686018427387904 (bits .or .u64 i41 (shlI .u64 (IntKind.u64.wrap (x87.toNat : Int)) (IntKind.i64.wrap (7 * i42))))) (some (0, 0, 2)) (some (IntKind.i64.wrap (bits .or .u64 i41 (shlI .u64 (IntKind.u64.wrap (x87.toNat : Int)) (IntKind.i64.wrap (7 * i42)))), IntKind.i64.wrap (i42 + 1), 0))))) | .inr r93 => some r93)
set_option maxHeartbeats 2000000 in
theorem at_frame_decode {fuelN : Nat} {a0 : List UInt8} {r : Int × Int × Int} (hs : frame_decode fuelN a0 = some r) : At Tryd.prog 56 [.cell (sC a0)] (.tup [iV .i64 r.1, iV .i64 r.2.1, iV .i64 r.2.2]) := by
 refine at_bound (by kernel_rfl) fun hb => ?_
 have hb1 : LenOk (.sl a0.length (encL a0)) := lkc hb
 refine at_code mixed Tryd.func56 (by kernel_rfl) rfl (by kernel_rfl) rfl fun Q hQ => ?_
 rw [frame_decode] at hs
 refine goR2 f0 ?_
 revert hs; refine bK fun o44 e43 hs => ?_
 refine awp_cutK (fun (v : Int × Int) (σ : St) => some (.inl v) = some o44 /\ σ.env 0 = .cell (sC a0) /\ σ.env 5 = iV .u64 v.1 /\ σ.env 6 = iV .i64 v.2 /\ 3 <= σ.gen) (by rfl) (fun Q hK45 hX46 => ?_) (fun v σ3 hp => ?_)
 ·refine goR f0 ?_
  revert e43; refine bK fun o70 e69 e43 => ?_
  refine awp_loopW (fun (v : Nat × Int × Int) (σ : St) => frame_decode_L1 a0 v.1 v.2.1 v.2.2 = some o70 /\ σ.env 0 = .cell (sC a0) /\ σ.env 5 = iV .u64 v.2.1 /\ σ.env 6 = iV .i64 v.2.2 /\ 3 <= σ.gen) (fun v => v.1) _ (Gh.refl _) (fuelN, 0, 0) ⟨e69, pv f0, pv f0, pv f0, pg⟩ fun v σ6 hp L71 hL72 => ?_
  obtain ⟨q74, i57, i58⟩ := v
  dsimp only at hp hL72
  obtain ⟨e69, h5_0, h5_5, h5_6, n5_g⟩ := hp
  rcases q74 with _ | q75
  ·rw [frame_decode_L1] at e69; cases e69
  ·rw [frame_decode_L1] at e69; try dsimp only at e69
   have F1 := an h5_0 (an h5_5 h5_6)
   refine goR F1 ?_
   revert e69; refine cS F1 ?_ ?_ <;> intro h79 e69
   ·refine goR F1 ?_
    obtain rfl := sj e69
    try dsimp only at e43
    obtain rfl := sj e43
    try dsimp only at hs
    refine hX46 _ _ (by simp) ?_
    refine goR F1 ?_
    obtain rfl := sj hs
    exact hQ _ _ (rg F1 (Gh.refl _))
   ·refine goR F1 ?_
    revert e69; refine cS F1 ?_ ?_ <;> intro h80 e69
    ·refine goR F1 ?_
     obtain rfl := sj e69
     try dsimp only at e43
     obtain rfl := sj e43
     try dsimp only at hs
     refine hX46 _ _ (by simp) ?_
     refine goR F1 ?_
     obtain rfl := sj hs
     exact hQ _ _ (rg F1 (Gh.refl _))
    ·revert e69; refine bK fun x81 hx82 e69 => ?_
     obtain ⟨hx82a, hx82b, hx82c, hx82d⟩ := getI_some hx82
     have f83 : partCV Tryd.prog 5 (encL a0) ((i58).toNat) = some (iV .u8 (x81.toNat : Int)) := partCV_enc1 hx82d (by simp)
     have F2 := an F1 f83
     refine goR F2 ?_
     revert e69; refine cS F2 ?_ ?_ <;> intro h84 e69
     ·refine goR F2 ?_
      obtain rfl := sj e69
      try dsimp only at e43
      exact hK45 (i57, i58) _ _ (Gh.refl _) ⟨e43, pv F2, pv F2, pv F2, pg⟩
     ·obtain ⟨g85, e69⟩ := guardO_some e69
      have g85z := shft_t g85
      have F3 := an F2 g85z
      refine goR F3 ?_
      exact hL72 (q75, bits .or .u64 i57 (shlI .u64 (IntKind.u64.wrap (IntKind.u8.wrap ((x81.toNat : Int) - 128))) (IntKind.i64.wrap (7 * i58))), IntKind.i64.wrap (i58 + 1)) _ _ (Gh.refl _) ⟨e69, pv F3, pv F3, pv F3, pg⟩ (by omega)
 ·obtain ⟨i41, i42⟩ := v
  dsimp only at hp
  obtain ⟨e43, h4_0, h4_5, h4_6, n4_g⟩ := hp
  obtain rfl := sj e43
  try dsimp only at hs
  revert hs; refine bK fun x87 hx88 hs => ?_
  obtain ⟨hx88a, hx88b, hx88c, hx88d⟩ := getI_some hx88
  have f89 : partCV Tryd.prog 5 (encL a0) ((i42).toNat) = some (iV .u8 (x87.toNat : Int)) := partCV_enc1 hx88d (by simp)
  have F4 := an h4_0 (an h4_5 (an h4_6 f89))
  have F5 := an F4 (an hx88a hx88b)
  refine goG F4 F5 ?_
  revert hs; refine cS F4 ?_ ?_ <;> intro h90 hs
  ·refine goG F4 F5 ?_
   obtain rfl := sj hs
   exact hQ _ _ (rg F4 (Gh.refl _))
  ·obtain ⟨g91, hs⟩ := guardO_some hs
   have g91z := shft_t g91
   have F6 := an F4 g91z
   have F7 := an F6 (an hx88a hx88b)
   refine goG F6 F7 ?_
   revert hs; refine cS F6 ?_ ?_ <;> intro h92 hs
   ·refine goG F6 F7 ?_
    obtain rfl := sj hs
    exact hQ _ _ (rg F6 (Gh.refl _))
   ·refine goG F6 F7 ?_
    obtain rfl := sj hs
    exact hQ _ _ (rg F6 (Gh.refl _))
end Go.Dc
end
section
set_option linter.all false
namespace Go.Dc
open Go Go.Hw Go.Proofs
set_option maxRecDepth 100000
def frame_Uint (fuelN : Nat) (a0 : List UInt8) : Option (Int × (List UInt8) × Int) :=
 Option.bind (frame_decode fuelN a0) (fun y1 => cond (!(eqI y1.2.2 0)) (some (0, [], y1.2.2)) (guardO (slB y1.2.1 (a0.length : Int) a0.length) (Option.bind (some (subL a0 y1.2.1 (a0.length : Int))) (fun l5 => Option.bind (some ([l5])) (fun l8 => Option.bind (frame_join l8) (fun y10 => some (y1.1, y10, 0)))))))
set_option maxHeartbeats 2000000 in
theorem at_frame_Uint {fuelN : Nat} {a0 : List UInt8} {r : Int × (List UInt8) × Int} (hs : frame_Uint fuelN a0 = some r) : At Tryd.prog 57 [.cell (sC a0)] (.tup [iV .i64 r.1, .cell (sC r.2.1), iV .i64 r.2.2]) := by
 refine at_bound (by kernel_rfl) fun hb => ?_
 have hb1 : LenOk (.sl a0.length (encL a0)) := lkc hb
 refine at_code mixed Tryd.func57 (by kernel_rfl) rfl (by kernel_rfl) rfl fun Q hQ => ?_
 rw [frame_Uint] at hs
 refine goR f0 ?_
 revert hs; refine bK fun y1 hx2 hs => ?_
 refine cP f0 (at_frame_decode hx2) ?_
 refine goR f0 ?_
 revert hs; refine cS f0 ?_ ?_ <;> intro h3 hs
 ·refine goR f0 ?_
  obtain rfl := sj hs
  exact hQ _ _ (rg f0 (Gh.unz _))
 ·obtain ⟨g4, hs⟩ := guardO_some hs
  obtain ⟨g4a, g4b, g4c⟩ := slB_t g4
  revert hs; refine lK fun l5 hx6 hs => ?_
  have f7n : l5.length = ((a0.length : Int) - y1.2.1).toNat := by rw [hx6]; exact subL_len ⟨g4a, g4b, g4c⟩
  have f7e : ((encL a0).drop ((y1.2.1 : Int).toNat * 1)).take (((a0.length : Int) - y1.2.1).toNat * 1) = encL l5 := by rw [hx6]; exact subL_enc (α := UInt8)
  try simp at f7n
  try simp at f7e
  have f7o : LenOk (.sl l5.length (encL l5)) := by rw [hx6]; exact subL_ok hb1
  revert hs; refine lK fun l8 hx9 hs => ?_
  have hx9n : l8.length = 1 := by rw [hx9]; rfl
  have F1 := an g4a (an g4b (an g4c (an f7n (an f7e hx9))))
  refine goR F1 ?_
  revert hs; refine bK fun y10 hx11 hs => ?_
  refine cA F1 (at_frame_join hx11) ?_
  refine goR F1 ?_
  obtain rfl := sj hs
  exact hQ _ _ (rg F1 (Gh.frz _ (.o 4 5 0)))
end Go.Dc
end
section
set_option linter.all false
namespace Go.Dc
open Go Go.Hw Go.Proofs
set_option maxRecDepth 100000
def frame_decodeInt (fuelN : Nat) (a0 : List UInt8) : Option (Int × Int × Int) :=
 Option.bind (frame_decode fuelN a0) (fun y1 => cond (!(eqI y1.2.2 0)) (some (0, 0, y1.2.2)) (cond (eqI (Int.tmod y1.1 2) 0) (some (IntKind.i64.wrap (Int.tdiv y1.1 2), y1.2.1, 0)) (some (IntKind.i64.wrap (Int.tdiv (IntKind.i64.wrap (0 - IntKind.i64.wrap (y1.1 + 1))) 2), y1.2.1, 0))))
set_option maxHeartbeats 2000000 in
theorem at_frame_decodeInt {fuelN : Nat} {a0 : List UInt8} {r : Int × Int × Int} (hs : frame_decodeInt fuelN a0 = some r) : At Tryd.prog 88 [.cell (sC a0)] (.tup [iV .i64 r.1, iV .i64 r.2.1, iV .i64 r.2.2]) := by
 refine at_bound (by kernel_rfl) fun hb => ?_
 have hb1 : LenOk (.sl a0.length (encL a0)) := lkc hb
 refine at_code mixed Tryd.func88 (by kernel_rfl) rfl (by kernel_rfl) rfl fun Q hQ => ?_
 rw [frame_decodeInt] at hs
 refine goR f0 ?_
 revert hs; refine bK fun y1 hx2 hs => ?_
 refine cP f0 (at_frame_decode hx2) ?_
 refine goR f0 ?_
 revert hs; refine cS f0 ?_ ?_ <;> intro h3 hs
 ·refine goR f0 ?_
  obtain rfl := sj hs
  exact hQ _ _ (rg f0 (Gh.refl _))
 ·refine goR f0 ?_
  revert hs; refine cS f0 ?_ ?_ <;> intro h4 hs
  ·refine goR f0 ?_
   obtain rfl := sj hs
   exact hQ _ _ (rg f0 (Gh.refl _))
  ·refine goR f0 ?_
   obtain rfl := sj hs
   exact hQ _ _ (rg f0 (Gh.refl _))
end Go.Dc
end
section
set_option linter.all false
namespace Go.Dc
open Go Go.Hw Go.Proofs
set_option maxRecDepth 100000
def frame_Int (fuelN : Nat) (a0 : List UInt8) : Option (Int × (List UInt8) × Int) :=
 Option.bind (frame_decodeInt fuelN a0) (fun y1 => cond (!(eqI y1.2.2 0)) (some (0, [], y1.2.2)) (guardO (slB y1.2.1 (a0.length : Int) a0.length) (Option.bind (some (subL a0 y1.2.1 (a0.length : Int))) (fun l5 => Option.bind (some ([l5])) (fun l8 => Option.bind (frame_join l8) (fun y10 => some (y1.1, y10, 0)))))))
set_option maxHeartbeats 2000000 in
theorem at_frame_Int {fuelN : Nat} {a0 : List UInt8} {r : Int × (List UInt8) × Int} (hs : frame_Int fuelN a0 = some r) : At Tryd.prog 74 [.cell (sC a0)] (.tup [iV .i64 r.1, .cell (sC r.2.1), iV .i64 r.2.2]) := by
 refine at_bound (by kernel_rfl) fun hb => ?_
 have hb1 : LenOk (.sl a0.length (encL a0)) := lkc hb
 refine at_code mixed Tryd.func74 (by kernel_rfl) rfl (by kernel_rfl) rfl fun Q hQ => ?_
 rw [frame_Int] at hs
 refine goR f0 ?_
 revert hs; refine bK fun y1 hx2 hs => ?_
 refine cP f0 (at_frame_decodeInt hx2) ?_
 refine goR f0 ?_
 revert hs; refine cS f0 ?_ ?_ <;> intro h3 hs
 ·refine goR f0 ?_
  obtain rfl := sj hs
  exact hQ _ _ (rg f0 (Gh.unz _))
 ·obtain ⟨g4, hs⟩ := guardO_some hs
  obtain ⟨g4a, g4b, g4c⟩ := slB_t g4
  revert hs; refine lK fun l5 hx6 hs => ?_
  have f7n : l5.length = ((a0.length : Int) - y1.2.1).toNat := by rw [hx6]; exact subL_len ⟨g4a, g4b, g4c⟩
  have f7e : ((encL a0).drop ((y1.2.1 : Int).toNat * 1)).take (((a0.length : Int) - y1.2.1).toNat * 1) = encL l5 := by rw [hx6]; exact subL_enc (α := UInt8)
  try simp at f7n
  try simp at f7e
  have f7o : LenOk (.sl l5.length (encL l5)) := by rw [hx6]; exact subL_ok hb1
  revert hs; refine lK fun l8 hx9 hs => ?_
  have hx9n : l8.length = 1 := by rw [hx9]; rfl
  have F1 := an g4a (an g4b (an g4c (an f7n (an f7e hx9))))
  refine goR F1 ?_
  revert hs; refine bK fun y10 hx11 hs => ?_
  refine cA F1 (at_frame_join hx11) ?_
  refine goR F1 ?_
  obtain rfl := sj hs
  exact hQ _ _ (rg F1 (Gh.frz _ (.o 4 5 0)))
end Go.Dc
end
section
set_option linter.all false
namespace Go.Dc
open Go Go.Hw Go.Proofs
set_option maxRecDepth 100000
def frame_Ints_L1 (fuelN : Nat) (y1 : Int × Int × Int) : Nat -> (List UInt8) -> (List Int) -> Option (((List UInt8) × (List Int)) ⊕ ((List Int) × (List UInt8) × Int))
 | 0, _, _ => none
 | q81 + 1, l57, l58 => cond (ltI ((l58.length : Nat) : Int) y1.1) (Option.bind (frame_decodeInt fuelN l57) (fun y86 => cond (!(eqI y86.2.2 0)) (some (.inr ([], [], y86.2.2))) (Option.bind (some ([y86.1])) (fun l89 => guardO (limB 8 (l58.length + l89.length)) (Option.bind (some (l58 ++ l89)) (fun l92 => guardO (slB y86.2.1 (l57.length : Int) l57.length) (Option.bind (some (subL l57 y86.2.1 (l57.length : Int))) (fun l95 => frame_Ints_L1 fuelN y1 q81 l95 l92)))))))) (some (.inl (l57, l58)))
def frame_Ints (fuelN : Nat) (a0 : List UInt8) (a1 : Int) : Option ((List Int) × (List UInt8) × Int) :=
 Option.bind (frame_decode fuelN a0) (fun y1 => cond (!(eqI y1.2.2 0)) (some ([], [], y1.2.2)) (cond (ltI (if 0 > a1 then 0 else a1) y1.1) (some ([], [], 4)) (guardO (slB y1.2.1 (a0.length : Int) a0.length) (Option.bind (some (subL a0 y1.2.1 (a0.length : Int))) (fun l6 => Option.bind (α := ((List UInt8) × (List Int)) ⊕ ((List Int) × (List UInt8) × Int)) (Option.bind (frame_Ints_L1 fuelN y1 fuelN l6 []) (fun o => match o with | .inl (l73, l74) => some (.inl (l73, l74)) | .inr r98 => some (.inr r98))) (fun o => match o with | .inl (l51, l52) => Option.bind (some ([l51])) (fun l99 => Option.bind (frame_join l99) (fun y101 => some (l52, y101, 0))) | .inr r103 => some r103))))))
set_option maxHeartbeats 2000000 in
theorem at_frame_Ints {fuelN : Nat} {a0 : List UInt8} {a1 : Int} {r : (List Int) × (List UInt8) × Int} (hs : frame_Ints fuelN a0 a1 = some r) : At Tryd.prog 75 [.cell (sC a0), iV .i64 a1] (.tup [.cell (sC r.1), .cell (sC r.2.1), iV .i64 r.2.2]) := by
 refine at_bound (by kernel_rfl) fun hb => ?_
 have hb1 : LenOk (.sl a0.length (encL a0)) := lkc hb
 refine at_code mixed Tryd.func75 (by kernel_rfl) rfl (by kernel_rfl) rfl fun Q hQ => ?_
 rw [frame_Ints] at hs
 refine goR f0 ?_
 revert hs; refine bK fun y1 hx2 hs => ?_
 refine cP f0 (at_frame_decode hx2) ?_
 refine goR f0 ?_
 revert hs; refine cS f0 ?_ ?_ <;> intro h3 hs
 ·refine goR f0 ?_
  obtain rfl := sj hs
  exact hQ _ _ (rg f0 (Gh.unz _))
 ·refine goR f0 ?_
  revert hs; refine cS f0 ?_ ?_ <;> intro h4 hs
  ·refine goR f0 ?_
   obtain rfl := sj hs
   exact hQ _ _ (rg f0 (Gh.unz _))
  ·obtain ⟨g5, hs⟩ := guardO_some hs
   obtain ⟨g5a, g5b, g5c⟩ := slB_t g5
   revert hs; refine lK fun l6 hx7 hs => ?_
   have f8n : l6.length = ((a0.length : Int) - y1.2.1).toNat := by rw [hx7]; exact subL_len ⟨g5a, g5b, g5c⟩
   have f8e : ((encL a0).drop ((y1.2.1 : Int).toNat * 1)).take (((a0.length : Int) - y1.2.1).toNat * 1) = encL l6 := by rw [hx7]; exact subL_enc (α := UInt8)
   try simp at f8n
   try simp at f8e
   have f8o : LenOk (.sl l6.length (encL l6)) := by rw [hx7]; exact subL_ok hb1
   have F1 := an g5a (an g5b (an g5c (an f8n f8e)))
   refine goR2 F1 ?_
   revert hs; refine bK fun o54 e53 hs => ?_
   refine awp_cutK (fun (v : (List UInt8) × (List Int)) (σ : St) => some (.inl v) = some o54 /\ σ.env 10 = .cell (sC v.1) /\ σ.env 11 = .cell (.sl (.l 1) 0 1 v.2.length) /\ σ.hp (.l 1) = some (.pure (encL v.2)) /\ 6 <= σ.gen) (by rfl) (fun Q hK55 hX56 => ?_) (fun v σ3 hp => ?_)
   ·refine goR F1 ?_
    revert e53; refine bK fun o76 e75 e53 => ?_
    refine awp_loopW (fun (v : Nat × (List UInt8) × (List Int)) (σ : St) => frame_Ints_L1 fuelN y1 v.1 v.2.1 v.2.2 = some o76 /\ σ.env 7 = iV .i64 y1.1 /\ σ.env 10 = .cell (sC v.2.1) /\ σ.env 11 = .cell (.sl (.l 4) 0 1 v.2.2.length) /\ σ.hp (.l 4) = some (.pure (encL v.2.2)) /\ 6 <= σ.gen) (fun v => v.1) _ (Gh.void _ (.l 4) 11 1 rfl (by simp [F1])) (fuelN, l6, []) ⟨e75, pv F1, pv F1, pv F1, pv F1, pg⟩ fun v σ6 hp L77 hL78 => ?_
    obtain ⟨q80, l57, l58⟩ := v
    dsimp only at hp hL78
    obtain ⟨e75, h5_7, h5_10, h5_11, g5_0, n5_g⟩ := hp
    rcases q80 with _ | q81
    ·rw [frame_Ints_L1] at e75; cases e75
    ·rw [frame_Ints_L1] at e75; try dsimp only at e75
     have F2 := an h5_7 (an h5_10 (an h5_11 g5_0))
     refine goR F2 ?_
     revert e75; refine cS F2 ?_ ?_ <;> intro h85 e75
     ·refine goR F2 ?_
      revert e75; refine bK fun y86 hx87 e75 => ?_
      refine cP F2 (at_frame_decodeInt hx87) ?_
      refine goR F2 ?_
      revert e75; refine cS F2 ?_ ?_ <;> intro h88 e75
      ·refine goR F2 ?_
       obtain rfl := sj e75
       try dsimp only at e53
       obtain rfl := sj e53
       try dsimp only at hs
       refine hX56 _ _ (by simp) ?_
       refine goR F2 ?_
       obtain rfl := sj hs
       exact hQ _ _ (rg F2 (Gh.unz _))
      ·revert e75; refine lK fun l89 hx90 e75 => ?_
       have hx90n : l89.length = 1 := by rw [hx90]; rfl
       obtain ⟨g91, e75⟩ := guardO_some e75
       have g91 := limB_t g91
       obtain ⟨g91a, g91b⟩ := g91
       revert e75; refine lK fun l92 hx93 e75 => ?_
       have hx93n : l92.length = (l58.length + l89.length) := by rw [hx93]; simp
       have hx93e : encL l92 = encL l58 ++ encL l89 := by rw [hx93]; simp
       obtain ⟨g94, e75⟩ := guardO_some e75
       obtain ⟨g94a, g94b, g94c⟩ := slB_t g94
       revert e75; refine lK fun l95 hx96 e75 => ?_
       have f97n : l95.length = ((l57.length : Int) - y86.2.1).toNat := by rw [hx96]; exact subL_len ⟨g94a, g94b, g94c⟩
       have f97e : ((encL l57).drop ((y86.2.1 : Int).toNat * 1)).take (((l57.length : Int) - y86.2.1).toNat * 1) = encL l95 := by rw [hx96]; exact subL_enc (α := UInt8)
       try simp at f97n
       try simp at f97e
       have F3 := an F2 (an hx90 (an hx93n (an hx93e (an g94a (an g94b (an g94c (an f97n f97e)))))))
       refine goR F3 ?_
       exact hL78 (q81, l95, l92) _ _ (Gh.ren _ (.o (σ6.gen + 4) 3 0) (.l 4) (by simp) rfl rfl) ⟨e75, pv F3, pv F3, pv F3, pv F3, pg⟩ (by omega)
     ·refine goR F2 ?_
      obtain rfl := sj e75
      try dsimp only at e53
      exact hK55 (l57, l58) _ _ (Gh.ren _ (.l 4) (.l 1) (by simp) rfl rfl) ⟨e53, pv F2, pv F2, pv F2, pg⟩
   ·obtain ⟨l51, l52⟩ := v
    dsimp only at hp
    obtain ⟨e53, h4_10, h4_11, g4_0, n4_g⟩ := hp
    obtain rfl := sj e53
    try dsimp only at hs
    revert hs; refine lK fun l99 hx100 hs => ?_
    have hx100n : l99.length = 1 := by rw [hx100]; rfl
    have F4 := an h4_10 (an h4_11 (an g4_0 hx100))
    refine goR F4 ?_
    revert hs; refine bK fun y101 hx102 hs => ?_
    refine cA F4 (at_frame_join hx102) ?_
    refine goR F4 ?_
    obtain rfl := sj hs
    exact hQ _ _ (rg F4 ((Gh.frz _ (.l 1)).trans (Gh.frz _ (.o (σ3.gen + 1) 3 0))))
end Go.Dc
end
section
set_option linter.all false
namespace Go.Dc
open Go Go.Hw Go.Proofs
set_option maxRecDepth 100000
def frame_sumBytes (a0 : Int) : Option (List UInt8) :=
 Option.bind (some ([u8 (IntKind.u8.wrap a0), u8 (IntKind.u8.wrap (shrI .u32 a0 8)), u8 (IntKind.u8.wrap (shrI .u32 a0 16)), u8 (IntKind.u8.wrap (shrI .u32 a0 24))])) (fun l1 => some l1)
set_option maxHeartbeats 2000000 in
theorem at_frame_sumBytes {a0 : Int} {r : (List UInt8)} (hs : frame_sumBytes a0 = some r) : At Tryd.prog 46 [iV .u32 a0] (.cell (sC r)) := by
 refine at_bound (by kernel_rfl) fun hb => ?_
 refine at_code mixed Tryd.func46 (by kernel_rfl) rfl (by kernel_rfl) rfl fun Q hQ => ?_
 rw [frame_sumBytes] at hs
 revert hs; refine lK fun l1 hx2 hs => ?_
 have hx2n : l1.length = 4 := by rw [hx2]; rfl
 refine goR hx2 ?_
 obtain rfl := sj hs
 exact hQ _ _ (rg hx2 (Gh.frz _ (.o 2 11 0)))
end Go.Dc
end
