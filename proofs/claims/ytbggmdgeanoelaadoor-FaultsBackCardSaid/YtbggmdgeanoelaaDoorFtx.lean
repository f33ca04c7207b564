-- Written by wip/tools/xprint.py of this work (the kit's print with contracts of its own).
import Derived.Test.YtbggmdgeanoelaaDoorFtx0
import Derived.Test.YtbggmdgeanoelaaDoorFtx1
import Derived.Test.YtbggmdgeanoelaaDoorFtx2
import Derived.Test.YtbggmdgeanoelaaDoorFtx3
import Derived.Test.YtbggmdgeanoelaaDoorFtx4
import Derived.Test.YtbggmdgeanoelaaDoorFtx5
import Derived.Test.YtbggmdgeanoelaaDoorFtx6
import Derived.Test.YtbggmdgeanoelaaDoorFtx7
import Derived.Test.YtbggmdgeanoelaaDoorFtx8
import Derived.Test.YtbggmdgeanoelaaDoorFtx9
import Derived.Test.YtbggmdgeanoelaaDoorFtx10
namespace Go.Proofs.YtbggmdgeanoelaaDoor.Ft
open Go.RowKit Go.Proofs.YtbggmdgeanoelaaDoorW.PrintWords Go.Proofs.YtbggmdgeanoelaaDoorW.PrintLast Go.Proofs.YtbggmdgeanoelaaDoorW.PrintMore
attribute [local go_sem] max2_int min2_int max_two min_two max_three min_three max_four min_four   -- for this text's walks alone
set_option linter.unusedVariables false
set_option linter.unusedSimpArgs false

end Go.Proofs.YtbggmdgeanoelaaDoor.Ft
